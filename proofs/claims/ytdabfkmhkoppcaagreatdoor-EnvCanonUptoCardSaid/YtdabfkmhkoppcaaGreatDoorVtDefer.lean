import Derived.Test.YtdabfkmhkoppcaaGreatDoorVtEval
import Derived.DefersIn
import Derived.RecoverIn
set_option linter.all false
open Array renaming getD_eq_getD_getElem?→kx1,getElem?_append_left→kw2,replicate→kA1
open Bool renaming and_eq_true→ks2
open List renaming getElem?_eq_some_iff→kp9
open Nat renaming sub_zero→kL1
namespace Go.Vt
set_option linter.unusedSectionVars false
set_option linter.unusedVariables false
variable [cJ]
variable {P:Program}
def VCD (P:Program) (f:FuncId) (avs:List V) (h:aB) (Post:aB→Prop):Prop:=
 jM P f=true∧∀(w:World) (μ:Pl) (args:Array Value),aR w μ h→avs.length=args.size→(∀(j:Nat) (v:V) (x:Value),avs[j]?=some v→args[j]?=some x→aZ w μ h v x)→
  CallsDIn Fence.wide 0 P f args .returning w fun e u' w'=>u' = .returning∧∃x h' μ',e = .returned x∧Post h'∧aR w' μ' h'∧Good w μ h w' μ' h'
theorem zY8 {f:FuncId} {fn:Func} {c:Code} {sg:cO} {avs:List V} {hs:aB} {Post:aB→Prop} (hm:P.follows .mixedOrders=true) (hf:P.funcs[f]?=some fn) (hb:fn.body=some c) (hcal:jM P f=true)
  (hok:eG P fn.ntmps sg c=true) (hlen:avs.length≤fn.ntmps) (hv:vwp P hs.length (aN sg c) (oW P hs.length fn.results.toList fun _ h'=>Post h') (prm 0 avs) hs):VCD P f avs hs Post:=by
 refine⟨hcal,fun w μ args H hl ha=>(callsDIn_of_wp (R:=fun e w'=>∃x h' μ',e = .returned x∧Post h'∧aR w' μ' h'∧Good w μ hs w' μ' h') hf hb trivial ?_)⟩;have hs0:St w μ hs fn.ntmps [] (prm 0 avs) hs { tmps:=args++kA1 (fn.ntmps-args.size) undef,defers:=[] } w:=by
  refine⟨μ,H,kn9 _ _ _,fun i v hi=>?_,by simp;omega,rfl,fun _ h=>by cases h⟩;obtain⟨_,hi⟩:=ze4 hi;simp only[kL1]at hi;have hlt:i<args.size:=by rw[←hl];exact(kp9.1 hi).1
  have:(args++kA1 (fn.ntmps-args.size) undef).getD i undef=args[i]:=by
   simp[kx1,kw2 hlt,hlt]
  rw[this];exact ha i v _ hi (by simp[hlt])
 refine vK (r:=none) hm c hok ?_ hs0 hv;have fin:∀T' h' a' w',(∃vs gs h1 r1 h2 ids r hs',dI P T' h' fn.results.toList=some vs∧eP h' gs=some h1∧WkV (dA vs) r1∧WkH h1 h2∧fin hs.length ids h2 r1=some (r,hs')∧Post hs')→St w μ hs fn.ntmps [] T' h' a' w'→
   a'.defers=[]∧∃v,(results fn a'.tmps).run P w' = .ok v w'∧∃x h'' μ'',Ending.returned v = .returned x∧Post h''∧aR w' μ'' h''∧Good w μ hs w' μ'' h'':=by
  rintro T' h' a' w' ⟨vs,gs,h1,r1,h2,ids,r,hs',e1,q1,q2,q3,e2,hp⟩ ⟨μ',H',G',S',_,hdf⟩;obtain⟨x,hx,hr⟩:=ze3 H' S' e1;obtain⟨μ1,H1,g1⟩:=vA H' q1;have g2:Good w' μ1 h1 w' μ1 h2:=q3.good;have hr1:=q2.rep ((hr.good g1).good g2);obtain⟨μ'',H'',hr'',G''⟩:=zr0 (q3.hrep H1) ((G'.trans g1).trans g2) hr1 e2;exact⟨hdf.1,x,hx,x,hs',μ'',rfl,hp,H'',G''⟩
 intro e T' h' a' w' hv' s';cases e with
 |normal=>exact fin T' h' a' w' hv' s'
 |ret=>exact fin T' h' a' w' hv' s'
 |exit id=>exact hv'.elim
def tK (P:Program) (n:Nat):List aC→(Sl→aB→Prop)→Sl→aB→Prop
 |[],K,T,h=>K T h
 |c::r,K,T,h=>vwp P n c (fun e T h=>match e with
  |.normal=>tK P n r K T h
  |_=>False) T h
section
variable {w0:World} {μ0:Pl} {h0:aB} {N:Nat} {df:List Deferred} {ops:List Oper}
theorem zY9 {r:Option Nat} {n:Nat} {K:Sl→aB→Prop} {Q:Exit→Act→World→Prop} {S:List Oper} (hk:∀T' h' a' w',K T' h'→St w0 μ0 h0 N df T' h' a' w'→wpListIn (FW r) n P ops.toArray Q S a' w'):∀(R:List Oper) {T:Sl} {h:aB} {a:Act} {w:World},(∀o∈R,∀d,o.dst=some d→d<N)→
  St w0 μ0 h0 N df T h a w→zd8 P ops R T h K→wpListIn (FW r) n P ops.toArray Q (R++S) a w
 |[],_,_,_,_,_,s,hv=>hk _ _ _ _ hv s
 |o::R,_,_,_,_,hd,s,hv=>nW s (hd o (by simp)) hv fun T' h' a' w' hv' s'=>zY9 hk R (fun o ho=>hd o (by simp[ho])) s' hv'
theorem zZ0 {n:Nat} {sg:cO} (hm:P.follows .mixedOrders=true) {K:Sl→aB→Prop} {Q:Exit→Act→World→Prop} {B:Code} (hB:∀T h a w,K T h→St w0 μ0 h0 N df T h a w→B.wpIn (FW none) n P Q a w):∀(As:List Code) {T:Sl} {h:aB} {a:Act} {w:World},(As.all fun c=>eG P N sg c)=true→
  St w0 μ0 h0 N df T h a w→tK P h0.length (As.map (aN sg)) K T h→(As.foldr Code.seq B).wpIn (FW none) n P Q a w
 |[],T,h,a,w,_,s,hv=>hB T h a w hv s
 |c::r,T,h,a,w,hok,s,hv=>by
  simp only[List.all_cons,ks2]at hok;refine wpIn_seq (vK (r:=none) hm c hok.1 ?_ s hv);intro e T' h' a' w' hv' s';cases e with
  |normal=>exact zZ0 hm hB r hok.2 s' hv'
  |exit id=>exact hv'.elim
  |ret=>exact hv'.elim
end
theorem zZ1 {f:FuncId} {fn:Func} {As:List Code} {B:Code} {id:Nat} {ops0:List Oper} {od:Oper} {d:Tmp} {sg:cO} {avs:List V} {hs:aB} {Post:V→aB→Prop} (hm:P.follows .mixedOrders=true) (hf:P.funcs[f]?=some fn)
  (hb:fn.body=some (As.foldr Code.seq (.seq (.region id (ops0++[od]).toArray false) B))) (hcal:jM P f=true) (hod:od.op = .defer { callee:=.value (.tmp d),args:=#[],argTypes:=#[] }) (hgd:od.guard=none) (hdst:od.dst=none)
  (okA:(As.all fun c=>eG P fn.ntmps sg c)=true) (okO:dOk fn.ntmps ops0=true) (okB:eG P fn.ntmps sg B=true) (hlen:avs.length≤fn.ntmps)
  (hv:tK P hs.length (As.map (aN sg)) (fun T h=>nX P (ops0.map (cop (ops0++[od]))) T h fun T1 h1=>∃g caps,T1.lookup d=some (.one (.fn g caps))∧
   vwp P h1.length (aN sg B) (fun e T2 h2=>(∀k,e≠.exit k)∧caps.all (dX h2)=true∧∃Pd,VCD P g (caps.map .one) h2 Pd∧∀h3,Pd h3→oW P hs.length fn.results.toList Post .ret T2 h3) T1 h1) (prm 0 avs) hs):VC P f avs hs Post:=by
 refine⟨hcal,fun w μ args H hl ha=>callsIn_of_wp_defers (F:=FW none) hf hb trivial ?_⟩;have hs0:St w μ hs fn.ntmps [] (prm 0 avs) hs { tmps:=args++kA1 (fn.ntmps-args.size) undef,defers:=[] } w:=by
  refine⟨μ,H,kn9 _ _ _,fun i v hi=>?_,by simp;omega,rfl,fun _ h=>by cases h⟩;obtain⟨_,hi⟩:=ze4 hi;simp only[kL1]at hi;have hlt:i<args.size:=by rw[←hl];exact(kp9.1 hi).1
  have:(args++kA1 (fn.ntmps-args.size) undef).getD i undef=args[i]:=by
   simp[kx1,kw2 hlt,hlt]
  rw[this];exact ha i v _ hi (by simp[hlt])
 refine zZ0 hm ?_ As okA hs0 hv;intro T h a w1 hv1 s1;refine wpIn_seq (wpIn_region_list ?_);have e1:(ops0++[od]).toArray.toList=ops0++[od]:=by simp
 rw[e1];refine zY9 ?_ ops0 (fun o ho=>vD okO ho) s1 (zr1 hv1);intro T1 h1 a1 w1 ⟨g,caps,hd,hv2⟩ ⟨μ1,H1,G1,S1,hN1,hdf1⟩;have hrep:=S1 d _ hd;obtain⟨cs,hev,hcl,hcr⟩:∃cs:Array Value,a1.tmps.getD d undef = .func (.func g) #[] cs∧caps.length=cs.size∧∀(j:Nat) (l:L) (v:Value),caps[j]?=some l→cs[j]?=some v→aY w1 μ1 h1 l v:=by
  revert hrep
  generalize a1.tmps.getD d undef=fv;intro hrep;cases hrep with
  |one _ hl=>cases hl with|@fn _ _ cs hcl hcr=>exact⟨cs,rfl,hcl,hcr⟩
 refine wpListIn_step fun K hK=>?_;rw[if_pos (by simp[Region.wanted,hgd])];refine⟨fun _ _=>trivial,?_⟩;have hrun:((od.semAt (FW none).round a1.eval).run P w1) = .ok (.defer { target:=.fn (.func g) cs,args:=#[] }) w1:=by
  show((Oper.semAt none a1.eval od).run P w1)=_;rw[Oper.semAt_none];unfold execOp;rw[hod];simp only[resolve];show((do pure (Next.defer (←Deferred.ofValue (a1.tmps.getD d undef) _)):Sem Next)).run P w1=_;rw[hev];simp[Deferred.ofValue]
 rw[hrun,Oper.uponIn_defer];refine hK _ _ ?_;rw[hdst];show Exit.then (B.wpIn (FW none) 0 P _) _ .normal _ w1;show B.wpIn (FW none) 0 P _ _ w1;have hs2:St w1 μ1 h1 fn.ntmps [{ target:=.fn (.func g) cs,args:=#[] }] T1 h1 { a1 with defers:={ target:=.fn (.func g) cs,args:=#[] }::a1.defers } w1:=⟨μ1,H1,kn9 _ _ _,S1,hN1,by rw[hdf1.1],fun d hd D hD=>by simp only[List.mem_singleton]at hd;subst hd;cases hD⟩;refine vK (r:=none) hm B okB ?_ hs2 hv2;intro e T2 h2 a2 w2 ⟨hex,hcap,Pd,hVD,hend⟩ ⟨μ2,H2,G2,S2,hN2,hdf2⟩;have leave:LeavesIn (FW none) 0 P fn a2.tmps (fun e w'=>∃r x h' μ',e = .returned x∧Post r h'∧aR w' μ' h'∧aZ w' μ' h' r x∧Good w μ hs w' μ' h') a2.defers .returning w2:=by
  rw[hdf2.1];have hargs:∀(j:Nat) (v:V) (x:Value),(caps.map V.one)[j]?=some v→cs[j]?=some x→aZ w2 μ2 h2 v x:=by
   intro j v x hj hx;rw[List.getElem?_map,Option.map_eq_some_iff]at hj;obtain⟨l,hl,rfl⟩:=hj;have hr:=(hcr j l x hl hx).good G2;exact zd4 hr (List.all_eq_true.1 hcap l (List.mem_of_getElem? hl))
  refine leavesIn_cons (f:=g) (args:=cs) (by simp) (fun h=>by simp[FW,Fence.wide]at h) ?_ (fun _ _=>trivial) ?_
  ·simp only[invoke];rw[zd3 hVD.1];simp
  ·refine(hVD.2 w2 μ2 cs H2 (by simp[hcl]) hargs).mono ?_;rintro e u' w3 ⟨rfl,x,h3,μ3,rfl,hp3,H3,G3⟩;show LeavesIn (FW none) 0 P fn a2.tmps _ [] (settle .returning) w3;obtain⟨vs,gs,h4,r1,h5,ids,r,hs',e1,q1,q2,q3,e2,hp⟩:=hend h3 hp3;obtain⟨y,hy,hr⟩:=ze3 H3 (S2.good G3) e1;obtain⟨μ4,H4,g4⟩:=vA H3 q1;have g5:Good w3 μ4 h4 w3 μ4 h5:=q3.good;have hr1:=q2.rep ((hr.good g4).good g5);obtain⟨μ6,H6,hr6,G6⟩:=zr0 (q3.hrep H4) ((((G1.trans G2).trans G3).trans g4).trans g5) hr1 e2;exact⟨y,hy,r,y,hs',μ6,rfl,hp,H6,hr6,G6⟩
 cases e with
 |normal=>exact leave
 |ret=>exact leave
 |exit k=>exact absurd rfl (hex k)
structure DF where
 N:Nat
 pre:List aC
 ops:List VOp
 slot:Tmp
 rest:aC
 rs:List ResultVar
structure tL (P:Program) (f:FuncId) (x:DF):Prop where
 fn:∃(fn:Func) (As:List Code) (B:Code) (id:Nat) (ops0:List Oper) (od:Oper) (sg:cO),P.funcs[f]?=some fn∧fn.body=some (As.foldr Code.seq (.seq (.region id (ops0++[od]).toArray false) B))∧jM P f=true∧
  od.op = .defer { callee:=.value (.tmp x.slot),args:=#[],argTypes:=#[] }∧od.guard=none∧od.dst=none∧(As.all fun c=>eG P fn.ntmps sg c)=true∧dOk fn.ntmps ops0=true∧eG P fn.ntmps sg B=true∧
  fn.ntmps=x.N∧fn.results.toList=x.rs∧As.map (aN sg)=x.pre∧ops0.map (cop (ops0++[od]))=x.ops∧aN sg B=x.rest
abbrev tM:=FuncId→List V→aB→Option aB
def zg3 (P:Program) (call:eL) (n fuel:Nat):List aC→(Sl→aB→Option dZ)→Sl→aB→Option dZ
 |[],K,T,h=>K T h
 |c::r,K,T,h=>ev P call n fuel c (fun e T h=>match e with
  |.normal=>zg3 P call n fuel r K T h
  |_=>none) T h
def zu3 (P:Program) (call:eL) (calld:tM) (fuel:Nat) (x:DF) (avs:List V) (h:aB):Option dZ:=
 if avs.length≤x.N then zg3 P call h.length fuel x.pre (fun T h0=>match zf6 P call x.ops T h0 with
  |some (T1,h1)=>match T1.lookup x.slot with
   |some (.one (.fn g caps))=>ev P call h1.length fuel x.rest (fun e T2 h2=>match e with
    |.exit _=>none
    |_=>if caps.all (dX h2)=true then (match calld g (caps.map .one) h2 with
     |some h3=>vY P h.length x.rs .ret T2 h3
     |none=>none)else none) T1 h1
   |_=>none
  |none=>none) (prm 0 avs) h else none
def zg4 (P:Program) (calld:tM):Prop:=∀g avs h h',calld g avs h=some h'→VCD P g avs h fun h''=>h''=h'
theorem zZ2 {call:eL} (hc:jA P call) {n fuel:Nat} {x:dZ}:∀{cs:List aC} {K:Sl→aB→Option dZ} {T:Sl} {h:aB},zg3 P call n fuel cs K T h=some x→∀{Q:Sl→aB→Prop},(∀T h,K T h=some x→Q T h)→tK P n cs Q T h
 |[],_,_,_,he,_,hq=>hq _ _ he
 |c::r,K,T,h,he,Q,hq=>by
  unfold zg3 at he;unfold tK;refine yP hc fuel c _ T h he fun e T h hk=>?_;cases e with
  |normal=>exact zZ2 hc hk hq
  |exit id=>cases hk
  |ret=>cases hk
theorem jE0 (hm:P.follows .mixedOrders=true) {call:eL} (hc:jA P call) {calld:tM} (hcd:zg4 P calld) {fuel:Nat} {f:FuncId} {x:DF} (hx:tL P f x) {avs:List V} {h:aB} {r:V} {h':aB} (he:zu3 P call calld fuel x avs h=some (r,h')) :
  VC P f avs h fun r' h''=>r'=r∧h''=h':=by
 obtain⟨fn,As,B,id,ops0,od,sg,e1,e2,e3,e4,e5,e6,e7,e8,e9,e10,e11,e12,e13,e14⟩:=hx.fn;unfold zu3 at he;split at he
 ·rename_i hlen;refine zZ1 hm e1 e2 e3 e4 e5 e6 e7 e8 e9 (by rw[e10];exact hlen) ?_;rw[e12,e13,e14,e11];refine zZ2 hc he fun T h0 hk=>?_;split at hk
  ·rename_i T1 h1 ho;refine zY1 hc ho ?_;split at hk
   ·rename_i g caps hl;refine⟨g,caps,hl,yP hc fuel x.rest _ T1 h1 hk fun e T2 h2 hk2=>?_⟩;split at hk2
    ·cases hk2
    ·rename_i hne;split at hk2
     ·rename_i hcap;split at hk2
      ·rename_i h3 hd;exact⟨fun k hk=>hne k hk,hcap,_,hcd _ _ _ _ hd,fun h4 e=>by subst e;exact zu0 ⟨rfl,rfl⟩ hk2⟩
      ·cases hk2
     ·cases hk2
   ·cases hk
  ·cases hk
 ·cases he
def nH:aC→Bool
 |.seq a b=>nH a&&nH b
 |.cond _ a b=>nH a&&nH b
 |.block _ c=>nH c
 |.rangeF _ _ _ _=>false
 |_=>true
theorem zZ3 {N:Nat} {sg:cO}:∀(c:Code),kD P N sg c=true→nH (aN sg c)=true→eG P N sg c=true:=by
 intro c;induction c with
 |seq x y ihx ihy=>
  intro h hp;simp only[kD,aN,nH,ks2]at h hp;simp only[eG,ks2];exact⟨ihx h.1 hp.1,ihy h.2 hp.2⟩
 |cond o x y ihx ihy=>
  intro h hp;simp only[kD,aN,nH,ks2]at h hp;simp only[eG,ks2];exact⟨ihx h.1 hp.1,ihy h.2 hp.2⟩
 |block id c ih=>
  intro h hp;simp only[kD,aN,nH]at h hp;simp only[eG];exact ih h hp
 |rangeFunc=>intro h hp;simp only[aN,nH]at hp;cases hp
 |region=>intro h _;exact h
 |loop=>intro h _;exact h
 |skip=>intro _ _;rfl
 |exit=>intro _ _;rfl
 |ret=>intro _ _;rfl
 |_=>intro _ _;rfl
def zu4 (P:Program) (tbl:Tbl) (call:eL) (fuel:Nat):tM:=fun f avs h=>match tbl f with
 |some (N,vc,rs)=>if avs.length≤N∧nH vc=true then (match ev P call h.length fuel vc (vY P h.length rs) (prm 0 avs) h with
  |some (_,h')=>some h'
  |none=>none)else none
 |none=>none
theorem jE1 (hm:P.follows .mixedOrders=true) {tbl:Tbl} (ht:zu2 P tbl) {call:eL} (hc:jA P call) {fuel:Nat}:zg4 P (zu4 P tbl call fuel):=by
 intro f avs h h' he;unfold zu4 at he;split at he
 ·rename_i N vc rs hf;split at he
  ·rename_i hlen;split at he
   ·rename_i r h1 hv;cases he;obtain⟨fn,c,sg,a1,a2,a3,a4,a5,a6,a7⟩:=(ht f N vc rs hf).fn;subst a3;subst a4;subst a7;exact zY8 hm a1 a2 a5 (zZ3 c a6 hlen.2) hlen.1 (yP hc fuel _ _ _ _ hv fun e T h hk=>zu0 (r:=r) (Post:=fun _ h''=>h''=h') rfl hk)
   ·cases he
  ·cases he
 ·cases he
def tO (P:Program) (tbl:Tbl) (nR:FuncId→Option DF) (own:eL) (ownD:tM) (fuel:Nat):Nat→eL
 |0,_,_,_=>none
 |d+1,f,avs,h=>match own f avs h with
  |some x=>some x
  |none=>match nR f with
   |some x=>zu3 P (tO P tbl nR own ownD fuel d) (fun g avs h=>match ownD g avs h with
    |some h'=>some h'
    |none=>zu4 P tbl (tO P tbl nR own ownD fuel d) fuel g avs h) fuel x avs h
   |none=>match tbl f with
    |some (N,vc,rs)=>if avs.length≤N then (match ev P (tO P tbl nR own ownD fuel d) h.length fuel vc (vY P h.length rs) (prm 0 avs) h with
     |some x=>some x
     |none=>ev P (tO P tbl nR own ownD fuel d) h.length fuel vc (zg0 P h.length rs) (prm 0 avs) h)else none
    |none=>none
theorem zZ4 (hm:P.follows .mixedOrders=true) {tbl:Tbl} (ht:zu2 P tbl) {nR:FuncId→Option DF} (hd:∀f x,nR f=some x→tL P f x) {own:eL} (ho:jA P own) {ownD:tM} (hoD:zg4 P ownD) {fuel:Nat}:∀d,jA P (tO P tbl nR own ownD fuel d)
 |0=>fun f avs h r h' he=>by cases he
 |d+1=>fun f avs h r h' he=>by
  have ih:=zZ4 hm ht hd ho hoD (fuel:=fuel) d;unfold tO at he;split at he
  ·rename_i x hx;cases he;exact ho _ _ _ _ _ hx
  ·split at he
   ·rename_i x hx;refine jE0 hm ih ?_ (hd f x hx) he;intro g avs' h1 h2 hg;simp only at hg;split at hg
    ·rename_i h3 h4;cases hg;exact hoD _ _ _ _ h4
    ·exact jE1 hm ht ih _ _ _ _ hg
   ·split at he
    ·rename_i N vc rs hf;split at he
     ·rename_i hlen;split at he
      ·rename_i x hx;cases he;exact aU hm (ht f N vc rs hf) hlen (yP ih fuel vc _ _ _ hx fun e T h hk=>zu0 ⟨rfl,rfl⟩ hk)
      ·exact aU hm (ht f N vc rs hf) hlen (yP ih fuel vc _ _ _ he fun e T h hk=>jD9 ⟨rfl,rfl⟩ hk)
     ·cases he
    ·cases he
end Go.Vt
