import Derived.Test.YtdabfkmhkoppcaaGreatDoorVtMem4
import Derived.Laws.Cover3
set_option linter.all false
open Array renaming getElem?_append_left→kw2,getElem?_append_right→kF6,getElem?_map→kF0
open List renaming all_eq_true→ku0,getElem?_append_left→kr9,getElem?_append_right→kr5,getElem?_eq_some_iff→kp9,getElem?_map→ks1,getElem?_set_ne→ku5,mem_of_getElem?→kq0
open Nat renaming lt_or_ge→ks3
open Option renaming map_eq_some_iff→kv7
namespace Go.Vt
set_option linter.unusedSectionVars false
set_option linter.unusedVariables false
variable [cJ]
section
variable {P:Program} {w:World} {μ:Pl} {h:aB}
theorem jq8 {id k sz:Nat} {h':aB} (H:aR w μ h) (hn:sS h id k sz=some h'):∃μ',aR w μ' h'∧Good w μ h w μ' h':=by
 unfold sS at hn;split at hn
 ·rename_i ty cs hid;split at hn
  ·rename_i hk;cases hn;have H1:=H.pushNone sz;have g1:=ko9 w μ h sz;have hlt:=(kp9.1 hid).1;have hid1:(h++[aI.arr false sz 0 []])[id]?=some (.bx ty cs):=nU _ hid;obtain⟨b,vs,T,b1,b2,b3,b4,b5⟩:=H1.box id cs hid1;have g2:Good w (μ.put h.length none) (h++[aI.arr false sz 0 []]) w (μ.put h.length none) ((h++[aI.arr false sz 0 []]).set id (.bx ty (cs.set k (.own h.length 0 0)))):=
    Good.row (o':=.bx ty (cs.set k (.own h.length 0 0))) hid1 rfl (by simp[lJ]) b1 b2 ⟨rfl,rfl,rfl,rfl,fun _ _=>rfl,b2⟩ rfl
   refine⟨_,H1.row (o':=.bx ty (cs.set k (.own h.length 0 0))) hid1 rfl (by simp[lJ]) b1 b2 ⟨rfl,rfl,rfl,rfl,fun _ _=>rfl,b2⟩ rfl ⟨by simp[b3],b4,?_⟩,g1.trans g2⟩;intro j l v hj hv;have hklt:=(kp9.1 hk).1;by_cases e:j=k
   ·subst e;simp[hklt]at hj;subst hj;have:=b5 j .nils v hk hv;cases this;refine .ownNil (ty:=none) (fz:=false) (sz:=sz) (xs:=[]) ?_ (ko3 _ _ _);rw[ku5 (by omega)];simp
   ·rw[ku5 (Ne.symm e)]at hj;exact(b5 j l v hj hv).good g2
  ·rename_i a len hk;split at hn
   ·rename_i cells ha;split at hn
    ·rename_i hne;cases hn;obtain⟨b,vs,T,b1,b2,b3,b4,b5⟩:=H.box a cells ha;have B:xL w μ a b w:=⟨rfl,rfl,rfl,Nat.le_refl _,fun _ _ _=>rfl,fun _ cs _ fr hb=>⟨cs,fr,hb,rfl⟩,.inl b1⟩;have H1:=H.moved B ha b2 b3 b4 b5;have g1:Good w μ h w (μ.put h.length (some b)) (h.set a .dead++[.box cells]):=kp0 B ha;have hid1:(h.set a .dead++[aI.box cells])[id]?=some (.bx ty cs):=nU _ (by rw[ku5 hne];exact hid);obtain⟨b',vs',T',c1,c2,c3,c4,c5⟩:=H1.box id cs hid1;have g2:Good w (μ.put h.length (some b)) (h.set a .dead++[.box cells]) w (μ.put h.length (some b)) ((h.set a .dead++[aI.box cells]).set id (.bx ty (cs.set k (.bsl h.length 0 len)))):=
      Good.row (o':=.bx ty (cs.set k (.bsl h.length 0 len))) hid1 rfl (by simp[lJ]) c1 c2 ⟨rfl,rfl,rfl,rfl,fun _ _=>rfl,c2⟩ rfl
     refine⟨_,H1.row (o':=.bx ty (cs.set k (.bsl h.length 0 len))) hid1 rfl (by simp[lJ]) c1 c2 ⟨rfl,rfl,rfl,rfl,fun _ _=>rfl,c2⟩ rfl ⟨by simp[c3],c4,?_⟩,g1.trans g2⟩;intro j l v hj hv;have hklt:=(kp9.1 hk).1;by_cases e:j=k
     ·subst e;simp[hklt]at hj;subst hj;obtain⟨b0,vs0,T0,d1,d2,d3,d4,d5⟩:=H.box id cs hid;have hlt:=(kp9.1 hid).1;rw[ko4 _ _ _ _ (by omega),d1]at c1;cases c1;rw[c2]at d2;cases d2;cases d5 j _ v hk hv with
      |bslDead hd=>rw[ha]at hd;cases hd
      |@bsl _ _ _ _ _ cells0 b1' cap0 cs0 T0' ha' hoff hμ hcap hb0 hcs=>
       rw[ha]at ha';cases ha';rw[b1]at hμ;cases hμ;refine .bsl (ty:=none) (cells:=cells) ?_ hoff (ko3 _ _ _) hcap hb0 hcs;rw[ku5 (by omega)];simp
     ·rw[ku5 (Ne.symm e)]at hj;exact(c5 j l v hj hv).good g2
    ·cases hn
   ·cases hn
  ·cases hn
 ·cases hn;exact⟨_,H.pushN (.inl rfl),ko8 w μ h _⟩
 ·cases hn
theorem vA:∀{gs:List (Nat×Nat×Nat)} {h h':aB} {μ:Pl},aR w μ h→eP h gs=some h'→∃μ',aR w μ' h'∧Good w μ h w μ' h'
 |[],h,h',μ,H,hn=>by cases hn;exact⟨μ,H,kn9 _ _ _⟩
 |(id,k,sz)::r,h,h',μ,H,hn=>by
  unfold eP at hn;split at hn
  ·rename_i h1 h1e;obtain⟨μ1,H1,g1⟩:=jq8 H h1e;obtain⟨μ2,H2,g2⟩:=vA H1 hn;exact⟨μ2,H2,g1.trans g2⟩
  ·cases hn
theorem zU2 {f:FuncId} {avs:List V} {K:V→aB→Prop} (hv:sT P f avs h K) (H:aR w μ h) {args:Array Value} (ha:avs.length=args.size) (hr:∀(j:Nat) (v:V) (x:Value),avs[j]?=some v→args[j]?=some x→aZ w μ h v x) :
  CallsIn Fence.wide 0 P f args w fun e w'=>∃r x h' μ',e = .returned x∧K r h'∧aR w' μ' h'∧aZ w' μ' h' r x∧Good w μ h w' μ' h':=by
 obtain⟨bs,hn,avs1,h1,k0,k1,k2,hv⟩:=hv;obtain⟨μ1,H1,g1⟩:=vA H k0;have g:Good w μ h w μ1 h1:=g1.trans k2.good;obtain⟨a1,a2⟩:=WkVs.get k1;refine(zT3 hv (k2.hrep H1) (a1.trans ha) fun j v x hj hx=>?_).mono ?_
 ·obtain⟨v0,b1,b2⟩:=a2 j v hj;exact b2.rep ((hr j v0 x b1 hx).good g)
 ·rintro e w' ⟨r,x,h',μ',e1,e2,e3,e4,e5⟩;exact⟨r,x,h',μ',e1,e2,e3,e4,g.trans e5⟩
end
def FW (r:Option Nat):Fence:={ Fence.wide with round:=r }
def kV (h:aB) (l:L) (K:Bool→Prop):Prop:=
 match l with
 |.nils=>K true
 |.d (.sl xs)=>∀b:Bool,(b=true→xs=[])→K b
 |.own id ver len=>match h[id]? with
  |some (.ar ty _ _ ver' _)=>ver'=ver∧∀b:Bool,(b=true→len=0)→K b
  |_=>False
 |_=>False
def dX (h:aB):L→Bool
 |.own id ver _=>match h[id]? with
  |some (.ar ty _ _ ver' _)=>ver' == ver
  |_=>false
 |.ept id ver _ _=>match h[id]? with
  |some (.ar ty _ _ ver' _)=>ver' == ver
  |_=>false
 |.ptr id _=>match h[id]? with
  |some (.bx ty _)=>true
  |_=>false
 |.bsl id _ _=>match h[id]? with
  |some (.bx ty _)=>true
  |_=>false
 |.osl id ver _ _=>match h[id]? with
  |some (.ar ty _ _ ver' _)=>ver' == ver
  |_=>false
 |_=>true
def cH (P:Program) (T:Sl) (h:aB) (o:Oper) (K:V→aB→Prop):Prop:=
 match o.op with
 |.call { callee:=.value f,args,.. }=>match opd T f,eO T args.toList with
  |some (.one (.fn f caps)),some vs=>caps.all (dX h)=true∧sT P f (vs++caps.map .one) h K
  |some (.one (.fb f fst)),some vs=>fst.all (dX h)=true∧sT P f (fst.map .one++(vs++[])) h K
  |_,_=>False
 |.binOp op t x (.const (.slice none 0 0)) _=>match ti P t,opd T x with
  |some i,some (.one l)=>match i.kd,op with
   |.slice,.eql=>kV h l fun b=>K (.one (.d (.bool b))) h
   |.slice,.neq=>kV h l fun b=>K (.one (.d (.bool (!b)))) h
   |_,_=>False
  |_,_=>False
 |_=>False
def eW (P:Program) (T:Sl) (h:aB) (o:Oper) (K:V→aB→Prop):Prop:=
 match vop P T h o with
 |some (v,h')=>K v h'
 |none=>match dW P T h o with
  |some (v,h')=>K v h'
  |none=>cH P T h o K
def bI (T:Sl) (d:Option Tmp) (v:V):Sl:=match d with
 |some d=>(d,v)::T
 |none=>T
def sV:V:=.tup []
def rF:Option V→Option (Option Bool)
 |some (.one (.d (.bool b)))=>some (some b)
 |some (.tup [])=>some none
 |_=>none
def lM (ops:List Oper) (T:Sl) (g:Nat):Option (Option Bool):=match ops[g]? with
 |some o=>match o.dst with
  |some d=>rF (T.lookup d)
  |none=>none
 |none=>none
def vgo (P:Program) (ops:List Oper) (o:Oper) (T:Sl) (h:aB) (K:Sl→aB→Prop):Prop:=
 match o.guard with
 |none=>eW P T h o fun v h'=>K (bI T o.dst v) h'
 |some (g,want)=>match lM ops T g with
  |some b=>(b=some want→eW P T h o fun v h'=>K (bI T o.dst v) h')∧(b≠some want→K (bI T o.dst sV) h)
  |none=>False
theorem zU3 {P:Program} {f:FuncId} {avs:List V} {h:aB} {K K':V→aB→Prop} (hv:sT P f avs h K) (hk:∀v h',K v h'→K' v h'):sT P f avs h K':=by
 obtain⟨bs,hn,avs1,h1,k0,k1,k2,ids,avs',hs,Post,a,b,c,d,e⟩:=hv;exact⟨bs,hn,avs1,h1,k0,k1,k2,ids,avs',hs,Post,a,b,c,d,fun r hs' hp=>let ⟨r',h',x,y⟩:=e r hs' hp;⟨r',h',x,hk _ _ y⟩⟩
theorem zU4 {h:aB} {l:L} {K K':Bool→Prop} (hv:kV h l K) (hk:∀b,K b→K' b):kV h l K':=by
 unfold kV at *;split at hv<;>first|exact hk _ hv|exact fun b hb=>hk b (hv b hb)|skip
 ·split at hv
  ·exact⟨hv.1,fun b hb=>hk b (hv.2 b hb)⟩
  ·exact hv
 ·exact hv
theorem jq9 {P:Program} {T:Sl} {h:aB} {o:Oper} {K K':V→aB→Prop} (hv:cH P T h o K) (hk:∀v h',K v h'→K' v h'):cH P T h o K':=by
 unfold cH at *;split at hv
 ·split at hv
  ·exact⟨hv.1,zU3 hv.2 hk⟩
  ·exact⟨hv.1,zU3 hv.2 hk⟩
  ·exact hv
 ·split at hv
  ·split at hv
   ·exact zU4 hv fun b hb=>hk _ _ hb
   ·exact zU4 hv fun b hb=>hk _ _ hb
   ·exact hv
  ·exact hv
 ·exact hv
theorem vB {P:Program} {T:Sl} {h:aB} {o:Oper} {K K':V→aB→Prop} (hv:eW P T h o K) (hk:∀v h',K v h'→K' v h'):eW P T h o K':=by
 unfold eW at *;split at hv
 ·exact hk _ _ hv
 ·split at hv
  ·exact hk _ _ hv
  ·exact jq9 hv hk
theorem oT {P:Program} {ops:List Oper} {T:Sl} {h:aB} {o:Oper} {K K':Sl→aB→Prop} (hv:vgo P ops o T h K) (hk:∀v h',K v h'→K' v h'):vgo P ops o T h K':=by
 unfold vgo at *;split at hv
 ·exact vB hv fun _ _=>hk _ _
 ·split at hv
  ·exact⟨fun e=>vB (hv.1 e) fun _ _=>hk _ _,fun e=>hk _ _ (hv.2 e)⟩
  ·exact hv
variable {P:Program} {w:World} {μ:Pl} {h:aB} {T:Sl} {a:Act}
theorem zp8 {args:List Operand} {vs:List V} (s:dP w μ h T a) (ho:eO T args=some vs):vs.length=args.length∧∀(j:Nat) (v:V) (x:Operand),vs[j]?=some v→args[j]?=some x→aZ w μ h v (a.eval x):=by
 induction args generalizing vs with
 |nil=>cases ho;exact⟨rfl,by simp⟩
 |cons x r ih=>
  unfold eO at ho;split at ho
  ·rename_i v vs' hx hr;cases ho;obtain⟨h1,h2⟩:=ih hr;refine⟨by simp[h1],fun j u y hj hy=>?_⟩;cases j with
   |zero=>simp at hj hy;subst hj;subst hy;exact bR s hx
   |succ j=>exact h2 j u y (by simpa using hj) (by simpa using hy)
  ·cases ho
def zU5 (P:Program) (o:Oper) (a:Act) (w:World) (μ:Pl) (h:aB) (K:V→aB→Prop):Prop:=
 (∃v h',K v h'∧dT P w μ h (execOp a.eval o) v h')∨
 ∃f args,(execOp a.eval o).run P w = .ok (.enter f args) w∧CallsIn Fence.wide 0 P f args w fun e w'=>∃r x h' μ',e = .returned x∧K r h'∧aR w' μ' h'∧aZ w' μ' h' r x∧Good w μ h w' μ' h'
theorem zd3 {f:FuncId} (hc:jM P f=true) (args:Array Value):(callFunc f args).run P w = .ok (.enter f args) w:=by
 unfold jM at hc;split at hc
 ·rename_i fn hf;simp only[Bool.and_eq_true,bne_iff_ne,ne_eq]at hc;have h2:fn.body≠none:=by cases hb:fn.body<;>simp_all
  simp[callFunc,go_sem,hf,hc.1,h2]
 ·cases hc
theorem zU6 {l:L} {x:Value} {K:Bool→Prop} (hl:aY w μ h l x) (hv:kV h l K) :
  ∃b,K b∧(∃p len cap,x = .slice p len cap∧b=p.isNone):=by
 unfold kV at hv;split at hv
 ·cases hl;exact⟨true,hv,none,0,0,rfl,rfl⟩
 ·rename_i xs;cases hl with
  |d hd=>
   cases hd with
   |sl0 p cap=>exact⟨p.isNone,hv _ (fun _=>rfl),p,0,cap,rfl,rfl⟩
   |sl sz _ b off cap vs hne=>exact⟨false,hv _ (fun hb=>by cases hb),_,_,_,rfl,rfl⟩
 ·rename_i id ver len;split at hv
  ·rename_i fz sz ver' xs hid;obtain⟨rfl,hv⟩:=hv;cases hl with
   |own hid'=>exact⟨false,hv _ (fun hb=>by cases hb),_,_,_,rfl,rfl⟩
   |ownNil hid'=>exact⟨true,hv _ (fun _=>rfl),none,0,0,rfl,rfl⟩
   |ownOld hid' hlt=>rw[hid]at hid';cases hid';omega
   |ownDead hid'=>rw[hid]at hid';cases hid'
  ·exact hv.elim
 ·exact hv.elim
theorem zd4 {l:L} {x:Value} (hl:aY w μ h l x) (hc:dX h l=true):aZ w μ h (.one l) x:=by
 by_cases hone:x.oneCell'=true
 ·exact .one hone hl
 ·cases hl with
  |any=>exact .top
  |d hd=>exact absurd hd.oneCell hone
  |ownOld hid hlt=>simp only[dX,hid,beq_iff_eq]at hc;omega
  |ownDead hid=>simp[dX,hid]at hc
  |eptOld hid hlt=>simp only[dX,hid,beq_iff_eq]at hc;omega
  |eptDead hid=>simp[dX,hid]at hc
  |ptrDead hid=>simp[dX,hid]at hc
  |bslDead hid=>simp[dX,hid]at hc
  |oslOld hid hlt=>simp only[dX,hid,beq_iff_eq]at hc;omega
  |oslDead hid=>simp[dX,hid]at hc
  |_=>exact absurd (by rfl) hone
theorem jr0 {t e:TypeId} {p:Option Addr} {l c:Nat} (hu:P.underlying t=some (.slice e)):(binOp .eql t (.slice p l c) (.slice none 0 0)).run P w = .ok (.bool p.isNone) w:=by
 simp[binOp,run_equal_slice_nil w t e p l c hu,Result.andThen]
theorem jr1 {o:Oper} {K:V→aB→Prop} (H:aR w μ h) (s:dP w μ h T a) (hv:cH P T h o K):zU5 P o a w μ h K:=by
 unfold cH at hv;split at hv
 ·rename_i f args ats ho;split at hv
  ·rename_i f' caps vs hf hargs;have hfr:=bR s hf;obtain⟨e1,e2⟩:=zp8 s hargs;cases hfr with
   |one _ hl=>
    revert hl
    generalize hae:a.eval f=fv;intro hl;cases hl with
    |@fn _ _ cs hcl hcr=>
     have hcall:=hv.2;obtain⟨_,_,_,_,_,_,_,_,_,_,_,_,_,_,hc,_⟩:=hcall;refine .inr ⟨f',args.map a.eval++cs,?_,zU2 hv.2 H ?_ ?_⟩
     ·simp only[execOp,ho,Sem.run_bind,resolve,hae,Deferred.ofValue];show(invoke _ _).run P w=_;simp only[invoke];rw[zd3 hc.1];simp
     ·simp[e1,hcl]
     ·intro j v x hj hx;have hal:(args.map a.eval).size=vs.length:=by simp[e1]
      rcases ks3 j vs.length with hlt|hge
      ·rw[kr9 hlt]at hj;rw[kw2 (by omega)]at hx;simp only[kF0,kv7]at hx;obtain⟨y,hy,rfl⟩:=hx;exact e2 j v y hj (by simpa using hy)
      ·rw[kr5 hge]at hj;rw[kF6 (by omega)]at hx;simp only[ks1,kv7]at hj;obtain⟨l,hl,rfl⟩:=hj;rw[hal]at hx;exact zd4 (hcr _ _ _ hl hx) (ku0.1 hv.1 l (kq0 hl))
  ·rename_i f' caps vs hf hargs;have hfr:=bR s hf;obtain⟨e1,e2⟩:=zp8 s hargs;cases hfr with
   |one _ hl=>
    revert hl
    generalize hae:a.eval f=fv;intro hl;cases hl with
    |@fb _ _ cs hcl hcr=>
     have hcall:=hv.2;obtain⟨_,_,_,_,_,_,_,_,_,_,_,_,_,_,hc,_⟩:=hcall;refine .inr ⟨f',cs++args.map a.eval,?_,zU2 hv.2 H ?_ ?_⟩
     ·simp only[execOp,ho,Sem.run_bind,resolve,hae,Deferred.ofValue];show(invoke _ _).run P w=_;simp only[invoke];rw[zd3 hc.1];simp
     ·simp[e1,hcl]
     ·intro j v x hj hx;rw[List.append_nil]at hj;have hcs:(caps.map V.one).length=cs.size:=by simp[hcl]
      rcases ks3 j cs.size with hlt|hge
      ·rw[kr9 (by omega)]at hj;rw[kw2 (by omega)]at hx;simp only[ks1,kv7]at hj;obtain⟨l,hl,rfl⟩:=hj;exact zd4 (hcr _ _ _ hl hx) (ku0.1 hv.1 l (kq0 hl))
      ·rw[kr5 (by omega),hcs]at hj;rw[kF6 (by omega)]at hx;simp only[kF0,kv7]at hx;obtain⟨y,hy,rfl⟩:=hx;exact e2 _ v y hj (by simpa using hy)
  ·exact hv.elim
 ·rename_i op t x yt ho;split at hv
  ·rename_i i l hi hx;obtain⟨I,d,h1,h2,_,_,_,_,h7,_⟩:=fE hi;have hxr:=bR s hx;have hye:a.eval (.const (.slice none 0 0)) = .slice none 0 0:=rfl;split at hv
   ·rename_i hk;obtain⟨e,rfl⟩:=pJ (h7.symm.trans hk);cases hxr with
    |top=>simp[kV]at hv
    |one _ hl=>
     obtain⟨b,hb,p,len,cap,hxe,rfl⟩:=zU6 hl hv;refine .inl ⟨_,h,hb,dT.same H (.one rfl (.d (.bool _))) ?_⟩;simp only[execOp,ho,hye,hxe];simp[eqGuard,jr0 h2,go_sem]
   ·rename_i hk;obtain⟨e,rfl⟩:=pJ (h7.symm.trans hk);cases hxr with
    |top=>simp[kV]at hv
    |one _ hl=>
     obtain⟨b,hb,p,len,cap,hxe,rfl⟩:=zU6 hl hv;refine .inl ⟨_,h,hb,dT.same H (.one rfl (.d (.bool _))) ?_⟩;simp only[execOp,ho,hye,hxe];simp[eqGuard,run_neq_slice_nil _ _ _ _ _ _ h2,go_sem]
   ·exact hv.elim
  ·exact hv.elim
 ·exact hv.elim
theorem zU7 {o:Oper} {K:V→aB→Prop} (H:aR w μ h) (s:dP w μ h T a) (hv:eW P T h o K):zU5 P o a w μ h K:=by
 unfold eW at hv;split at hv
 ·rename_i v h' e;exact .inl ⟨v,h',hv,jo5 H s e⟩
 ·split at hv
  ·rename_i v h' e;exact .inl ⟨v,h',hv,jq7 H s e⟩
  ·exact jr1 H s hv
end Go.Vt
