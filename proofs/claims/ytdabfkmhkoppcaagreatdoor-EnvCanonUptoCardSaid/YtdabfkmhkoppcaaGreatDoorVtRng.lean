import Derived.Test.YtdabfkmhkoppcaaGreatDoorVtFun
import Derived.RangeFuncLeaves
import Derived.RangeFuncRecord
set_option linter.all false
open Array renaming getElem?_eq_some_iff→kt0,getElem?_setIfInBounds_ne→kE6
open Bool renaming and_eq_true→ks2
open List renaming mem_cons_of_mem→kw6,mem_cons_self→kA3,mem_cons→kt6
namespace Go.Vt
set_option linter.unusedSectionVars false
set_option linter.unusedVariables false
variable [cJ]
variable {P:Program}
section turn
variable {w:World} {μ:Pl} {h:aB} {l:Nat} {o o':Obj}
theorem nY (w:World) (l:Nat) (o':Obj) (b:Nat) (hb:b≠l):(w.putObj l o').heap[b]?=w.heap[b]?:=World.putObj_heap_other hb
theorem cM.turn (hl:w.heap[l]?=some o) (ho:∀cs T fr,o≠.cells cs T fr) {M:Nat→Prop} {x:D} {v:Value} (hx:cM w M x v):cM (w.putObj l o') M x v:=by
 induction hx with
 |bool b=>exact .bool b
 |int k n=>exact .int k n
 |str s=>exact .str s
 |nilp=>exact .nilp
 |sl0 a cap=>exact .sl0 a cap
 |sl sz xs b off cap vs hne hb hlt hcap hlen hcell _ ih=>
  refine .sl sz xs b off cap vs hne hb (by simpa using hlt) hcap hlen (fun i j e x hi hj=>?_) ih;have hc:=hcell i j e x hi hj;have hbl:b≠l:=by
   rintro rfl;unfold World.cell? at hc;simp only[hl]at hc;cases o<;>first|exact ho _ _ _ rfl|cases hc
  exact(World.cell?_of_block (w:=w) (nY w l o' b hbl)).trans hc
theorem aY.turn (hl:w.heap[l]?=some o) (ho:∀cs T fr,o≠.cells cs T fr) {x:L} {v:Value} (hx:aY w μ h x v):aY (w.putObj l o') μ h x v:=by
 have same:∀{b:Nat} {cs:Array Value} {T:TypeId} {fr:Nat×Nat},w.heap[b]?=some (.cells cs T fr)→(w.putObj l o').heap[b]?=some (.cells cs T fr):=by
  intro b cs T fr hb;rw[nY w l o' b (fun e=>by subst e;rw[hl]at hb;cases hb;exact ho _ _ _ rfl),hb]
 induction hx with
 |d hd=>exact .d (hd.turn hl ho)
 |nils=>exact .nils
 |own h1 h2 h3 h4 h5 h6=>exact .own h1 h2 h3 h4 (same h5) h6
 |ownNil h1 h2=>exact .ownNil h1 h2
 |ownOld h1 h2=>exact .ownOld h1 h2
 |ownDead h1=>exact .ownDead h1
 |ptr h1 h2 h3=>exact .ptr h1 h2 h3
 |ptrDead h1=>exact .ptrDead h1
 |ept h1 h2 h3 h4=>exact .ept h1 h2 h3 h4
 |eptOld h1 h2=>exact .eptOld h1 h2
 |eptDead h1=>exact .eptDead h1
 |@ref cells b off vs hb hlt hc hd=>
  refine .ref hb (by simpa using hlt) (fun j x hj=>?_) (fun j x hj=>(hd j x hj).turn hl ho);have hc:=hc j x hj;have hbl:b≠l:=by
   rintro rfl;unfold World.cell? at hc;simp only[hl]at hc;cases o<;>first|exact ho _ _ _ rfl|cases hc
  exact(World.cell?_of_block (w:=w) (nY w l o' b hbl)).trans hc
 |fn hl' _ ih=>exact .fn hl' ih
 |nilf=>exact .nilf
 |any=>exact .any
 |bsl h1 h2 h3 h4 h5 h6=>exact .bsl h1 h2 h3 h4 (same h5) h6
 |bslDead h1=>exact .bslDead h1
 |osl h1 h2 h3 h4 h5 h6=>exact .osl h1 h2 h3 h4 (same h5) h6
 |oslOld h1 h2=>exact .oslOld h1 h2
 |oslDead h1=>exact .oslDead h1
 |nili=>exact .nili
 |fb hl' _ ih=>exact .fb hl' ih
theorem aZ.turn (hl:w.heap[l]?=some o) (ho:∀cs T fr,o≠.cells cs T fr) {x:V} {v:Value} (hx:aZ w μ h x v):aZ (w.putObj l o') μ h x v:=by
 induction hx with
 |one h1 h2=>exact .one h1 (h2.turn hl ho)
 |top=>exact .top
 |agg h1 hc h2=>exact .agg h1 (fun j l v a b=>(hc j l v a b).turn hl ho) h2
 |tup h1 _ ih=>exact .tup h1 ih
theorem aR.turn (hl:w.heap[l]?=some o) (ho:∀cs T fr,o≠.cells cs T fr) (H:aR w μ h):aR (w.putObj l o') μ h:=by
 have same:∀{b:Nat} {cs:Array Value} {T:TypeId} {fr:Nat×Nat},w.heap[b]?=some (.cells cs T fr)→(w.putObj l o').heap[b]?=some (.cells cs T fr):=by
  intro b cs T fr hb;rw[nY w l o' b (fun e=>by subst e;rw[hl]at hb;cases hb;exact ho _ _ _ rfl),hb]
 refine⟨fun id _ cells hid=>?_,fun id _ fz sz ver xs hid=>?_,H.apart,H.off,fun b hb=>by have:=H.old b hb;simpa using this,fun i o b hi hb=>by
  have h0:=H.ty i o b hi hb;have sh:∀{T n},w.shape? b=some (T,n)→(w.putObj l o').shape? b=some (T,n):=by
   intro T n hs;unfold World.shape? at hs;split at hs
   ·rename_i cs T' fr hb';simp only[World.shape?,same hb'];exact hs
   ·cases hs
  unfold aI.tyOk at h0 ⊢;split
  ·exact sh h0
  ·obtain⟨n,hn⟩:=h0;exact⟨n,sh hn⟩
  ·trivial,fun b y e=>by
  obtain⟨⟨T,fr,q1⟩,q2⟩:=H.tab b y e;exact⟨⟨T,fr,same q1⟩,q2⟩⟩
 ·obtain⟨b,cs,T,h1,h2,h3,h4,h5⟩:=H.box id cells hid;exact⟨b,cs,T,h1,same h2,h3,h4,fun j l v hj hv=>(h5 j l v hj hv).turn hl ho⟩
 ·rcases H.arr id fz sz ver xs hid with hn|⟨b,cs,T,h1,h2,h3,h4,h5,h6⟩
  ·exact .inl hn
  ·exact .inr ⟨b,cs,T,h1,same h2,h3,h4,h5,fun i j e x hi hj=>let ⟨v,a,c⟩:=h6 i j e x hi hj;⟨v,a,c.turn hl ho⟩⟩
theorem Good.turn {w0:World} {μ0:Pl} {h0:aB} (_:w.heap[l]?=some o) (_:∀cs T fr,o≠.cells cs T fr) (hs:w0.heap.size≤l) (g:Good w0 μ0 h0 w μ h):Good w0 μ0 h0 (w.putObj l o') μ h where
 os:=g.os
 tape:=g.tape
 output:=g.output
 size:=by simpa using g.size
 out:=g.out
 block b hb hm:=by rw[nY w l o' b (by omega)];exact g.block b hb hm
 shape b cs T fr hb:=by
  have hlt:=(kt0.1 hb).1;rw[nY w l o' b (by omega)];exact g.shape b cs T fr hb
 fresh:=g.fresh
 len:=g.len
 boxes:=g.boxes
 arrs:=g.arrs
 deads:=g.deads
theorem Good.lay (w:World) (μ:Pl) (h:aB) (o:Obj):Good w μ h (w.alloc o) μ h where
 os:=rfl
 tape:=rfl
 output:=rfl
 size:=by simp
 out:=rfl
 block b hb _:=Go.RowKit.Below.heap_alloc w o b hb
 shape b cs T fr hb:=⟨cs,_,(Go.RowKit.Below.heap_alloc w o b (kt0.1 hb).1).trans hb,rfl⟩
 fresh b hm:=.inl hm
 len:=Nat.le_refl _
 boxes id ty cells hb:=.inr ⟨cells,ty,hb,rfl,rfl⟩
 arrs id ty fz sz ver xs hb:=.inr ⟨fz,sz,ver,xs,ty,hb,.inl ⟨rfl,rfl,rfl,rfl⟩⟩
 deads id hb:=hb
theorem aR.lay (H:aR w μ h) (o:Obj):aR (w.alloc o) μ h:=by
 have g:=Good.lay w μ h o;refine⟨fun id _ cells hid=>?_,fun id _ fz sz ver xs hid=>?_,H.apart,H.off,fun b hb=>Nat.lt_of_lt_of_le (H.old b hb) g.size,fun i o b hi hb=>(H.ty i o b hi hb).good g,H.tabs g⟩
 ·obtain⟨b,cs,T,h1,h2,h3,h4,h5⟩:=H.box id cells hid;exact⟨b,cs,T,h1,(Go.RowKit.Below.heap_alloc w o b (kt0.1 h2).1).trans h2,h3,h4,fun j l v hj hv=>(h5 j l v hj hv).good g⟩
 ·rcases H.arr id fz sz ver xs hid with hn|⟨b,cs,T,h1,h2,h3,h4,h5,h6⟩
  ·exact .inl hn
  ·exact .inr ⟨b,cs,T,h1,(Go.RowKit.Below.heap_alloc w o b (kt0.1 h2).1).trans h2,h3,h4,h5,fun i j e x hi hj=>let ⟨v,a,c⟩:=h6 i j e x hi hj;⟨v,a,c.good g⟩⟩
end turn
set_option linter.unusedSectionVars false
set_option linter.unusedVariables false
variable [cJ]
variable {P:Program}
def jG (fn:FuncId) (tmps:Array Value) (ps:Array Tmp) (assign body:Code) (D:Nat) (pd:Option VX):Loop:=
 { state:=if pd.isNone then .ready else .done,pending:=pd.bind VX.code,fn,tmps,params:=ps,assign,body,defers:=D }
def StY (wE:World) (μE:Pl) (hE:aB) (N:Nat) (D l:Nat) (R:Option VX→Loop) (T:Sl) (ys:List Tmp) (h:aB) (pd:Option VX) (a:Act) (w:World):Prop:=
 St wE μE hE N [] T h a w∧w.heap[l]?=some (.loop (R pd))∧w.heap[D]?=some (.deferred (some []))∧∀i∈ys,a.tmps[i]?=some (.func (.yield l) #[] #[])
def zr5 (P:Program) (wE:World) (μE:Pl) (hE:aB) (D l:Nat) (R:Option VX→Loop) (Y:kX):Prop:=
 ∀(vs:List V) (args:Array Value) (h:aB) (w:World) (μ:Pl) (K:Option VX→aB→Prop),aR w μ h→Good wE μE hE w μ h→vs.length=args.size→
  (∀(j:Nat) (v:V) (x:Value),vs[j]?=some v→args[j]?=some x→aZ w μ h v x)→w.heap[l]?=some (.loop (R none))→w.heap[D]?=some (.deferred (some []))→Y vs h K→
  ∃fn tmps assign body,(Instr.yield l args).run P w = .ok (.round l fn tmps assign body) w∧RoundIn (FW none) 0 P l fn tmps assign body w fun e w'=>
   ∃pd' h' μ',e = .returned (.bool pd'.isNone)∧K pd' h'∧aR w' μ' h'∧Good wE μE hE w' μ' h'∧(∀v x,aZ w μ h v x→aZ w' μ' h' v x)∧
    w'.heap[l]?=some (.loop (R pd'))∧w'.heap[D]?=some (.deferred (some []))
variable {wE:World} {μE:Pl} {hE:aB} {N D l:Nat} {R:Option VX→Loop} {Y:kX}
theorem zr6 {x:Nat}:∀{ys:List Nat},iK x ys=true→x∈ys
 |y::r,h=>by
  simp only[iK,Bool.or_eq_true]at h;rcases h with h|h
  ·rw[Nat.eq_of_beq_eq_true h];exact kA3
  ·exact kw6 _ (zr6 h)
theorem zr7 {d:Tmp} {i:Nat}:∀{ys:List Nat},i∈jF (some d) ys→i∈ys∧i≠d
 |y::r,h=>by
  simp only[jF]at h;split at h
  ·have:=zr7 h;exact⟨kw6 _ this.1,this.2⟩
  ·rename_i hb;rcases kt6.1 h with rfl|h
   ·exact⟨kA3,fun e=>by subst e;simp at hb⟩
   ·have:=zr7 h;exact⟨kw6 _ this.1,this.2⟩
theorem zW5 {ys:List Tmp} {a:Act} {d:Option Tmp} {x:Value} (hy:∀i∈ys,a.tmps[i]?=some (.func (.yield l) #[] #[])):∀i∈jF d ys,(a.put d x).tmps[i]?=some (.func (.yield l) #[] #[]):=by
 intro i hi;cases d with
 |none=>
  have:jF none ys=ys:=by cases ys<;>rfl
  rw[this]at hi;exact hy i hi
 |some d=>
  obtain⟨h1,h2⟩:=zr7 hi;show(a.tmps.setIfInBounds d x)[i]?=_;rw[kE6 (fun e=>h2 e.symm)];exact hy i h1
theorem zW6 {a:Act} {i:Nat} {v:Value} (h:a.tmps[i]?=some v):a.eval (.tmp i)=v:=by
 show a.tmps.getD i undef=v;rw[Array.getD_eq_getD_getElem?,h];rfl
theorem jt5 {ops:List Oper} {o:Oper} {ys:List Tmp}:match yop (cop ops o) ys with
  |.mv d=>o.guard=none∧o.dst=some d∧∃i,o.op = .move (.tmp i)∧i∈ys
  |.yl args=>o.guard=none∧∃c i,o.op = .call c∧c.callee = .value (.tmp i)∧i∈ys∧args=c.args.toList
  |.no=>True:=by
 unfold yop cop;cases hg:o.guard with
 |some gw=>trivial
 |none=>
  simp only;cases ho:o.op with
  |move x=>
   cases x with
   |tmp i=>
    cases hd:o.dst with
    |none=>trivial
    |some d=>
     simp only;cases hm:iK i ys with
     |false=>trivial
     |true=>exact⟨by first|rfl|trivial,by first|rfl|trivial,i,rfl,zr6 hm⟩
   |_=>trivial
  |call c=>
   simp only;cases hc:c.callee with
   |value f=>
    cases f with
    |tmp i=>
     simp only;cases hm:iK i ys with
     |false=>trivial
     |true=>exact⟨by first|rfl|trivial,c,i,rfl,hc,zr6 hm,rfl⟩
    |_=>trivial
   |_=>trivial
  |_=>trivial
theorem ze5 {ops:List Oper} {K:KO} {Q:Exit→Act→World→Prop} (hY:zr5 P wE μE hE D l R Y)
  (hk:∀T' ys' h' pd' a' w',K T' ys' h' pd'→StY wE μE hE N D l R T' ys' h' pd' a' w'→Q .normal a' w') :
  ∀(L:List Oper) {T:Sl} {ys:List Tmp} {h:aB} {pd:Option VX} {a:Act} {w:World},(∀o∈L,∀d,o.dst=some d→d<N)→StY wE μE hE N D l R T ys h pd a w→
  eH P Y (L.map (cop ops)) T ys h pd K→wpListIn (FW none) 0 P ops.toArray Q L a w
 |[],_,_,_,_,_,_,_,s,hv=>hk _ _ _ _ _ _ hv s
 |o::L,T,ys,h,pd,a,w,hd,⟨⟨μ,H,G,S,hN,hdf,hmk⟩,hrec,hD,hys⟩,hv=>by
  have hd':∀o∈L,∀d,o.dst=some d→d<N:=fun o ho=>hd o (by simp[ho]);have hv:lP P Y (cop ops o) T ys h pd fun T' ys' h' pd'=>eH P Y (L.map (cop ops)) T' ys' h' pd' K:=hv;unfold lP at hv;have hspec:=jt5 (ops:=ops) (o:=o) (ys:=ys);split at hv
  ·rename_i d hyo;rw[hyo]at hspec;obtain⟨hg,hdst,i,ho,hi⟩:=hspec;refine wpListIn_step fun K' hK'=>?_;rw[if_pos (by simp[Region.wanted,hg])];refine⟨fun _ _=>trivial,?_⟩;have hrun:((o.semAt (FW none).round a.eval).run P w) = .ok (.value (.func (.yield l) #[] #[])) w:=by
    show((Oper.semAt none a.eval o).run P w)=_;rw[Oper.semAt_none];unfold execOp;rw[ho];simp only[zW6 (hys i hi)];rfl
   rw[hrun,Oper.uponIn_value,hdst];refine hK' _ _ (ze5 hY hk L hd' ⟨⟨μ,H,G,S.put (d:=some d) (v:=.one .any) .top (fun t ht=>by cases ht;rw[hN];exact hd o (by simp) _ hdst),by rw[rG,hN],by rw[rI];exact hdf,hmk⟩,hrec,hD,?_⟩ hv);have hdl:d<a.tmps.size:=by rw[hN];exact hd o (by simp) _ hdst
   intro k hk';show(a.tmps.setIfInBounds d _)[k]?=_;by_cases e:k=d
   ·subst e;simp[hdl]
   ·rw[kE6 (fun h=>e h.symm)];rcases kt6.1 hk' with h|h
    ·exact absurd h e
    ·exact hys k h
  ·rename_i args hyo;rw[hyo]at hspec;obtain⟨hg,c,i,ho,hc,hi,rfl⟩:=hspec;obtain⟨rfl,vs,hvs,hyv⟩:=hv;obtain⟨e1,e2⟩:=zp8 S hvs;obtain⟨fn,tmps,assign,body,hyr,hround⟩:=hY vs (c.args.map a.eval) h w μ _ H G (by simp[e1]) (fun j v x hj hx=>by
    simp only[Array.getElem?_map,Option.map_eq_some_iff]at hx;obtain⟨y,hy,rfl⟩:=hx;exact e2 j v y hj (by simpa using hy)) hrec hD hyv
   refine wpListIn_step fun K' hK'=>?_;rw[if_pos (by simp[Region.wanted,hg])];refine⟨fun _ _=>trivial,?_⟩;have hrun:((o.semAt (FW none).round a.eval).run P w) = .ok (.round l fn tmps assign body) w:=by
    show((Oper.semAt none a.eval o).run P w)=_;rw[Oper.semAt_none];simp only[execOp,ho,Sem.run_bind,resolve,hc,zW6 (hys i hi),Deferred.ofValue];show(invoke _ _).run P w=_;simp only[invoke];rw[←hyr];simp
   rw[hrun,Oper.uponIn_round];refine⟨fun hx=>by simp[FW,Fence.wide]at hx,hround.mono ?_⟩;rintro e w' ⟨pd',h',μ',rfl,hk',H',G',tr,hrec',hD'⟩;have S':dP w' μ' h' T a:=fun i v hi=>tr _ _ (S i v hi);exact hK' _ _ (ze5 hY hk L hd' ⟨⟨μ',H',G',S'.put (.one rfl (.d (.bool _))) (fun t ht=>by rw[hN];exact hd o (by simp) _ ht),by rw[rG,hN],by rw[rI];exact hdf,fun _ hx=>by cases hx⟩,hrec',hD',zW5 hys⟩ hk')
  ·have s1:St w μ h N [] T h a w:=⟨μ,H,kn9 _ _ _,S,hN,hdf,hmk⟩;refine js3 s1 (hd o (by simp)) (oV hv) fun T' h' x w' hv' s'=>?_;obtain⟨μ',H',G',S',hN',hdf',hmk'⟩:=s';exact ze5 hY hk L hd' ⟨⟨μ',H',G.trans G',S',hN',hdf',hmk'⟩,G'.still H hrec (fun _ _ _ h=>by cases h),G'.still H hD (fun _ _ _ h=>by cases h),zW5 hys⟩ hv'
open Classical in
theorem jt6 (hY:zr5 P wE μE hE D l R Y):∀(c:Code) {K:KY} {Q:Exit→Act→World→Prop} {T:Sl} {ys:List Tmp} {h:aB} {pd:Option VX} {a:Act} {w:World},nB N c=true→
  (∀e T' ys' h' pd' a' w',K e T' ys' h' pd'→StY wE μE hE N D l R T' ys' h' pd' a' w'→Q e.toExit a' w')→StY wE μE hE N D l R T ys h pd a w→dY P hE.length Y (aN [] c) K T ys h pd→c.wpIn (FW none) 0 P Q a w:=by
 intro c;induction c with
 |skip=>intro K Q T ys h pd a w _ hk s hv;exact wpIn_skip (hk .normal _ _ _ _ _ _ hv s)
 |region id ops draw=>
  intro K Q T ys h pd a w hok hk s hv;obtain⟨ops⟩:=ops;simp only[nB,ks2,Bool.not_eq_true']at hok;obtain⟨h1,rfl⟩:=hok;exact wpIn_region_list (ze5 hY (fun _ _ _ _ _ _=>hk .normal _ _ _ _ _ _) ops (fun o ho=>vD h1 ho) s hv)
 |seq x y ihx ihy=>
  intro K Q T ys h pd a w hok hk s hv;simp only[nB,ks2]at hok;refine wpIn_seq (ihx hok.1 ?_ s hv);intro e T' ys' h' pd' a' w' hv' s';cases e with
  |normal=>exact ihy hok.2 hk s' hv'
  |exit id=>exact hk (.exit id) _ _ _ _ _ _ hv' s'
  |ret=>exact hk .ret _ _ _ _ _ _ hv' s'
 |cond o x y ihx ihy=>
  intro K Q T ys h pd a w hok hk s hv;simp only[nB,ks2]at hok;have hv:iX (opd T o) (dY P hE.length Y (aN [] x) K T ys h pd) (dY P hE.length Y (aN [] y) K T ys h pd):=hv;unfold iX at hv;split at hv
  ·rename_i t ht;have s0:=s;obtain⟨⟨μ,H,G,S,hN,hdf⟩,_⟩:=s0;have hr:=bR S ht;have he:a.eval o = .bool t:=by
    revert hr
    generalize a.eval o=x;intro hr;cases hr with
    |one _ hl=>cases hl with|d hd=>cases hd;rfl
   refine wpIn_cond he ?_;cases t with
   |true=>exact ihx hok.1 hk s (hv.1 rfl)
   |false=>exact ihy hok.2 hk s (hv.2 rfl)
  ·exact hv.elim
 |block id c ih=>
  intro K Q T ys h pd a w hok hk s hv;refine wpIn_block (ih hok ?_ s hv);intro e T' ys' h' pd' a' w' hv' s';cases e with
  |normal=>exact hk .normal _ _ _ _ _ _ hv' s'
  |exit id'=>
   show(if id'=id then Q .normal a' w' else Q (.exit id') a' w');have hv':(if id'=id then K .normal else K (.exit id')) T' ys' h' pd':=hv';split
   ·rename_i e;rw[if_pos e]at hv';exact hk .normal _ _ _ _ _ _ hv' s'
   ·rename_i e;rw[if_neg e]at hv';exact hk (.exit id') _ _ _ _ _ _ hv' s'
  |ret=>exact hk .ret _ _ _ _ _ _ hv' s'
 |loop c ih=>
  intro K Q T ys h pd a w hok hk s hv;obtain⟨I,⟨n0,T0,hh0,hs0,hI0⟩,hround⟩:=hv
  let at_:Act→World→Nat→Prop:=fun a w m=>∃T ys h pd,I m T ys h pd∧StY wE μE hE N D l R T ys h pd a w
  have hmin:∀(p:Nat→Prop),(∃m,p m)→∃m,p m∧∀k,p k→m≤k:=by
   intro p ⟨m,hm⟩;induction m using Nat.strongRecOn with
   |_ m ih=>
    by_cases hex:∃k,p k∧k<m
    ·obtain⟨k,hk,hlt⟩:=hex;exact ih k hlt hk
    ·exact⟨m,hm,fun k hk=>Nat.le_of_not_lt fun hlt=>hex ⟨k,hk,hlt⟩⟩
  let meas:Act→World→Nat:=fun a w=>if hx:∃m,at_ a w m then (hmin _ hx).choose else 0
  refine wpIn_loop (fun a w=>∃m,at_ a w m) meas ⟨n0,T0,ys,hh0,pd,hI0,s.1.less hs0,s.2⟩ ?_;intro a w hx;have hspec:=(hmin _ hx).choose_spec;have hme:meas a w=(hmin _ hx).choose:=dif_pos hx;rw[←hme]at hspec;obtain⟨⟨T1,ys1,h1,pd1,hI1,s1⟩,_⟩:=hspec;refine ih hok ?_ s1 (hround _ _ _ _ _ hI1);intro e T' ys' h' pd' a' w' hv' s';cases e with
  |normal=>
   obtain⟨m,T0,hh1,hlt,hsub,hI⟩:=hv';have hx':∃m,at_ a' w' m:=⟨m,T0,ys',hh1,pd',hI,s'.1.less hsub,s'.2⟩;refine⟨hx',?_⟩;have hspec':=(hmin _ hx').choose_spec;have hme':meas a' w'=(hmin _ hx').choose:=dif_pos hx';rw[hme'];exact Nat.lt_of_le_of_lt (hspec'.2 m ⟨T0,ys',hh1,pd',hI,s'.1.less hsub,s'.2⟩) hlt
  |exit id=>exact hk (.exit id) _ _ _ _ _ _ hv' s'
  |ret=>exact hk .ret _ _ _ _ _ _ hv' s'
 |exit id=>intro K Q T ys h pd a w _ hk s hv;exact wpIn_exit (hk (.exit id) _ _ _ _ _ _ hv s)
 |ret=>intro K Q T ys h pd a w _ hk s hv;exact wpIn_ret (hk .ret _ _ _ _ _ _ hv s)
 |rangeFunc=>intro K Q T ys h pd a w hok;cases hok
 |scope=>intro K Q T ys h pd a w hok;cases hok
 |label=>intro K Q T ys h pd a w hok;cases hok
 |goto=>intro K Q T ys h pd a w hok;cases hok
 |refuse=>intro K Q T ys h pd a w hok;cases hok
end Go.Vt
