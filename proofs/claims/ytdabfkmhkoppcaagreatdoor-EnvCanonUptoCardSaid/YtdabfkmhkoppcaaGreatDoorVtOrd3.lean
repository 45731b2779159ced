import Derived.Test.YtdabfkmhkoppcaaGreatDoorVtOrd
set_option linter.all false
open Array renaming getD_eq_getD_getElem?→kx1
open List renaming getElem?_toArray→kH1
open Nat renaming zero_le→kt1
open Option renaming bind_some→ku8
namespace Go.Vt
set_option linter.unusedSectionVars false
set_option linter.unusedVariables false
variable [cJ]
variable {P:Program} {ops:List Oper} {ob:Nat→List Nat}
theorem js2 {i:Nat} {R R':List Nat} {K:Sl→aB→Prop} (hr:∀W T h,dQ P ops ob R W T h K→dQ P ops ob R' W T h K) {W:iI} {T:Sl} {h:aB} (hv:dQ P ops ob (i::R) W T h K):dQ P ops ob (i::R') W T h K:=by
 rw[dQ]at hv ⊢;cases ho:ops[i]? with
 |none=>simp[ho]at hv
 |some o=>
  simp only[ho]at hv ⊢;split
  ·rename_i hro;rw[if_pos hro]at hv;exact oT hv fun _ _=>hr _ _ _
  ·rename_i hro;rw[if_neg hro]at hv;exact oT hv fun _ _ hx=>⟨hx.1,hr _ _ _ hx.2⟩
theorem zq3 {j:Nat} {R2:List Nat} {K:Sl→aB→Prop} (hK:∀T T' h,iA T T'→K T h→K T' h):∀(R1:List Nat) {W:iI} {T:Sl} {h:aB},(∀i∈R1,oU P ops ob i j=true)→
  dQ P ops ob (R1++j::R2) W T h K→dQ P ops ob (j::(R1++R2)) W T h K
 |[],_,_,_,_,hv=>hv
 |i::R1,_,_,_,hs,hv=>js1 (hs i (by simp)) hK (js2 (fun _ _ _ hv=>zq3 hK R1 (fun i hi=>hs i (by simp[hi])) hv) hv)
def pO (df:List Deferred) (w:World):Prop:=∀d∈df,∀D,d.target = .collected D→w.heap[D]?=some (.deferred (some []))
theorem aR.cells {w:World} {μ:Pl} {h:aB} (H:aR w μ h) {b:Nat} (hl:Lv μ h b):∃cs T,w.heap[b]?=some (.cells cs T (0,0)):=by
 obtain⟨id,o,h1,h2,h3⟩:=hl;cases o with
 |bx ty cells=>obtain⟨b',cs,T,a1,a2,_⟩:=H.box _ _ h1;rw[h3]at a1;cases a1;exact⟨cs,T,a2⟩
 |ar ty fz sz ver xs=>
  rcases H.arr _ _ _ _ _ h1 with⟨hn,_⟩|⟨b',cs,T,a1,a2,_⟩
  ·rw[h3]at hn;cases hn
  ·rw[h3]at a1;cases a1;exact⟨cs,T,a2⟩
 |dead=>cases h2
theorem Good.still {w w':World} {μ μ':Pl} {h h':aB} (H:aR w μ h) (g:Good w μ h w' μ' h') {b:Nat} {o:Obj} (hb:w.heap[b]?=some o) (ho:∀cs T fr,o≠.cells cs T fr):w'.heap[b]?=some o:=by
 rw[g.block b (Array.getElem?_eq_some_iff.1 hb).1 (fun hl=>?_),hb];obtain⟨cs,T,hc⟩:=H.cells hl;rw[hb]at hc;cases hc;exact ho _ _ _ rfl
theorem pO.good {df:List Deferred} {w w':World} {μ μ':Pl} {h h':aB} (m:pO df w) (H:aR w μ h) (g:Good w μ h w' μ' h'):pO df w':=
 fun d hd D hD=>g.still H (m d hd D hD) (fun _ _ _ h=>by cases h)
def St (w0:World) (μ0:Pl) (h0:aB) (N:Nat) (df:List Deferred) (T:Sl) (h:aB) (a:Act) (w:World):Prop:=
 ∃μ,aR w μ h∧Good w0 μ0 h0 w μ h∧dP w μ h T a∧a.tmps.size=N∧a.defers=df∧pO df w
variable {w0:World} {μ0:Pl} {h0:aB} {N:Nat} {df:List Deferred}
theorem dP.put {w:World} {μ:Pl} {h:aB} {T:Sl} {a:Act} (s:dP w μ h T a) {d:Option Tmp} {v:V} {x:Value} (hx:aZ w μ h v x) (hd:∀t,d=some t→t<a.tmps.size):dP w μ h (bI T d v) (a.put d x):=by
 cases d with
 |none=>exact s
 |some t=>
  intro i u hi;have hi:List.lookup i ((t,v)::T)=some u:=hi;rw[List.lookup_cons]at hi;have ht:=hd t rfl;show aZ w μ h u ((a.tmps.setIfInBounds t x).getD i undef);by_cases e:i=t
  ·subst e;simp only[beq_self_eq_true]at hi;cases hi;simpa[Array.getD,ht]using hx
  ·have hb:(i == t)=false:=by simpa using e
   rw[hb]at hi;have:=s i u hi;have hg:(a.tmps.setIfInBounds t x).getD i undef=a.tmps.getD i undef:=by
    simp only[kx1];rw[Array.getElem?_setIfInBounds_ne (fun h=>e h.symm)]
   rw[hg];exact this
theorem rG (a:Act) (d:Option Tmp) (x:Value):(a.put d x).tmps.size=a.tmps.size:=by cases d<;>simp[Act.put]
theorem rI (a:Act) (d:Option Tmp) (x:Value):(a.put d x).defers=a.defers:=by cases d<;>rfl
theorem zV0 {T:Sl} {h:aB} {o:Oper} {K:V→aB→Prop} (hv:eW P T h o K) (c:Call):o.op≠.defer c:=by
 intro ho;simp[eW,vop,dW,cH,ho]at hv
theorem zV1 {r:Option Nat} {n:Nat} {o:Oper} {T:Sl} {h:aB} {K:V→aB→Prop} {K':Act→World→Prop} {Q:Exit→Act→World→Prop} {a:Act} {w:World} (s:St w0 μ0 h0 N df T h a w)
  (hd:∀d,o.dst=some d→d<N) (hv:eW P T h o K) (hk:∀v h' a' w',K v h'→St w0 μ0 h0 N df (bI T o.dst v) h' a' w'→K' a' w'):o.wpIn (FW r) n P a w K' Q:=by
 obtain⟨μ,H,G,S,hN,hdf⟩:=s;refine⟨fun _ _=>trivial,?_⟩;rw[Oper.semAt_eq _ _ _ (zV0 hv)];rcases zU7 H S hv with⟨v,h',hK,n',w',μ',x,hrun,hn',H',hx,G'⟩|⟨f,args,hrun,hc⟩
 ·have hs:St w0 μ0 h0 N df (bI T o.dst v) h' (a.put o.dst x) w':=⟨μ',H',G.trans G',(S.good G').put hx (fun t ht=>by rw[hN];exact hd t ht),by rw[rG,hN],by rw[rI];exact hdf.1,hdf.2.good H G'⟩;rw[hrun];rcases hn' with rfl|⟨rfl,rfl⟩
  ·exact hk _ _ _ _ hK hs
  ·exact hk _ _ _ _ hK hs
 ·rw[hrun];refine⟨fun hx=>by simp[FW,Fence.wide]at hx,?_⟩;have hc':CallsIn (FW r) (n-1) P f args w _:=(hc.more (kt1 _));refine hc'.mono ?_;rintro e w' ⟨rv,x,h',μ',rfl,hK,H',hx,G'⟩;exact hk _ _ _ _ hK ⟨μ',H',G.trans G',(S.good G').put hx (fun t ht=>by rw[hN];exact hd t ht),by rw[rG,hN],by rw[rI];exact hdf.1,hdf.2.good H G'⟩
theorem zV2 {r:Option Nat} {n:Nat} {o:Oper} {T:Sl} {h:aB} {K:V→aB→Prop} {K':Act→World→Prop} {Q:Exit→Act→World→Prop} {a:Act} {w:World} (s:St w0 μ0 h0 N df T h a w)
  (hd:∀d,o.dst=some d→d<N) (hv:eW P T h o K) (hk:∀v h' x w',K v h'→St w0 μ0 h0 N df (bI T o.dst v) h' (a.put o.dst x) w'→K' (a.put o.dst x) w'):o.wpIn (FW r) n P a w K' Q:=by
 obtain⟨μ,H,G,S,hN,hdf⟩:=s;refine⟨fun _ _=>trivial,?_⟩;rw[Oper.semAt_eq _ _ _ (zV0 hv)];rcases zU7 H S hv with⟨v,h',hK,n',w',μ',x,hrun,hn',H',hx,G'⟩|⟨f,args,hrun,hc⟩
 ·have hs:St w0 μ0 h0 N df (bI T o.dst v) h' (a.put o.dst x) w':=⟨μ',H',G.trans G',(S.good G').put hx (fun t ht=>by rw[hN];exact hd t ht),by rw[rG,hN],by rw[rI];exact hdf.1,hdf.2.good H G'⟩;rw[hrun];rcases hn' with rfl|⟨rfl,rfl⟩
  ·exact hk _ _ _ _ hK hs
  ·exact hk _ _ _ _ hK hs
 ·rw[hrun];refine⟨fun hx=>by simp[FW,Fence.wide]at hx,?_⟩;have hc':CallsIn (FW r) (n-1) P f args w _:=(hc.more (kt1 _));refine hc'.mono ?_;rintro e w' ⟨rv,x,h',μ',rfl,hK,H',hx,G'⟩;exact hk _ _ _ _ hK ⟨μ',H',G.trans G',(S.good G').put hx (fun t ht=>by rw[hN];exact hd t ht),by rw[rG,hN],by rw[rI];exact hdf.1,hdf.2.good H G'⟩
theorem zV3 {w:World} {μ:Pl} {h:aB} {T:Sl} {a:Act} (S:dP w μ h T a) {g:Nat} {b:Option Bool} (hg:lM ops T g=some b):yielded ops.toArray a.tmps g=b:=by
 unfold lM at hg;split at hg
 ·rename_i o ho;split at hg
  ·rename_i d hdo;unfold rF at hg;split at hg
   ·rename_i b' hb;cases hg;have hr:=S d _ hb;unfold yielded;simp only[kH1,ho,hdo,ku8]
    revert hr
    generalize hx:a.tmps.getD d undef=x;intro hr;cases hr with
    |one _ hl=>
     cases hl with
     |d hd=>
      cases hd;rw[kx1]at hx;cases ht:a.tmps[d]? with
      |none=>rw[ht]at hx;simp[undef]at hx
      |some y=>rw[ht]at hx;simp at hx;subst hx;rfl
   ·rename_i hb;cases hg;have hr:=S d _ hb;unfold yielded;simp only[kH1,ho,hdo,ku8]
    revert hr
    generalize hx:a.tmps.getD d undef=x;intro hr;cases hr with
    |tup _ _=>
     rw[kx1]at hx;cases ht:a.tmps[d]? with
     |none=>rfl
     |some y=>rw[ht]at hx;simp at hx;subst hx;rfl
   ·cases hg
  ·cases hg
 ·cases hg
theorem nW {r:Option Nat} {n:Nat} {o:Oper} {T:Sl} {h:aB} {K:Sl→aB→Prop} {K':Act→World→Prop} {Q:Exit→Act→World→Prop} {a:Act} {w:World} (s:St w0 μ0 h0 N df T h a w)
  (hd:∀d,o.dst=some d→d<N) (hv:vgo P ops o T h K) (hk:∀T' h' a' w',K T' h'→St w0 μ0 h0 N df T' h' a' w'→K' a' w') :
  if Region.wanted o (yielded ops.toArray a.tmps)then o.wpIn (FW r) n P a w K' Q else (∀f,o.about P w a.eval=some f→(FW r).fn f)∧K' (a.put o.dst undef) w:=by
 unfold vgo at hv;cases hg:o.guard with
 |none=>
  simp only[hg]at hv;simp only[Region.wanted,hg,if_true];exact zV1 s hd hv fun v h' a' w'=>hk _ _ _ _
 |some gw=>
  obtain⟨g,want⟩:=gw;simp only[hg]at hv;cases hb:lM ops T g with
  |none=>simp[hb]at hv
  |some b=>
   simp only[hb]at hv;obtain⟨μ,H,G,S,hN,hdf⟩:=s;have hy:=zV3 S hb;by_cases e:b=some want
   ·have:Region.wanted o (yielded ops.toArray a.tmps)=true:=by simp[Region.wanted,hg,hy,e]
    rw[if_pos this];exact zV1 ⟨μ,H,G,S,hN,hdf⟩ hd (hv.1 e) fun v h' a' w'=>hk _ _ _ _
   ·have:Region.wanted o (yielded ops.toArray a.tmps)=false:=by simp[Region.wanted,hg,hy,e]
    rw[if_neg (by rw[this];simp)];exact⟨fun _ _=>trivial,hk _ _ _ _ (hv.2 e) ⟨μ,H,G,S.put (.tup rfl (by simp)) (fun t ht=>by rw[hN];exact hd t ht),by rw[rG,hN],by rw[rI];exact hdf.1,hdf.2⟩⟩
theorem js3 {r:Option Nat} {n:Nat} {o:Oper} {T:Sl} {h:aB} {K:Sl→aB→Prop} {K':Act→World→Prop} {Q:Exit→Act→World→Prop} {a:Act} {w:World} (s:St w0 μ0 h0 N df T h a w)
  (hd:∀d,o.dst=some d→d<N) (hv:vgo P ops o T h K) (hk:∀T' h' x w',K T' h'→St w0 μ0 h0 N df T' h' (a.put o.dst x) w'→K' (a.put o.dst x) w') :
  if Region.wanted o (yielded ops.toArray a.tmps)then o.wpIn (FW r) n P a w K' Q else (∀f,o.about P w a.eval=some f→(FW r).fn f)∧K' (a.put o.dst undef) w:=by
 unfold vgo at hv;cases hg:o.guard with
 |none=>
  simp only[hg]at hv;simp only[Region.wanted,hg,if_true];exact zV2 s hd hv fun v h' a' w'=>hk _ _ _ _
 |some gw=>
  obtain⟨g,want⟩:=gw;simp only[hg]at hv;cases hb:lM ops T g with
  |none=>simp[hb]at hv
  |some b=>
   simp only[hb]at hv;obtain⟨μ,H,G,S,hN,hdf⟩:=s;have hy:=zV3 S hb;by_cases e:b=some want
   ·have:Region.wanted o (yielded ops.toArray a.tmps)=true:=by simp[Region.wanted,hg,hy,e]
    rw[if_pos this];exact zV2 ⟨μ,H,G,S,hN,hdf⟩ hd (hv.1 e) fun v h' a' w'=>hk _ _ _ _
   ·have:Region.wanted o (yielded ops.toArray a.tmps)=false:=by simp[Region.wanted,hg,hy,e]
    rw[if_neg (by rw[this];simp)];exact⟨fun _ _=>trivial,hk _ _ _ _ (hv.2 e) ⟨μ,H,G,S.put (.tup rfl (by simp)) (fun t ht=>by rw[hN];exact hd t ht),by rw[rG,hN],by rw[rI];exact hdf.1,hdf.2⟩⟩
def zd8 (P:Program) (ops:List Oper):List Oper→Sl→aB→(Sl→aB→Prop)→Prop
 |[],T,h,K=>K T h
 |o::R,T,h,K=>vgo P ops o T h fun T' h'=>zd8 P ops R T' h' K
def dOk (N:Nat) (ops:List Oper):Bool:=ops.all fun o=>match o.dst with
 |some d=>d<N
 |none=>true
theorem vD (h:dOk N ops=true) {o:Oper} (ho:o∈ops) (d:Nat) (hd:o.dst=some d):d<N:=by
 have:=List.all_eq_true.1 h o ho;rw[hd]at this;simpa using this
theorem zV4 {r:Option Nat} {n:Nat} {K:Sl→aB→Prop} {Q:Exit→Act→World→Prop} (hk:∀T' h' a' w',K T' h'→St w0 μ0 h0 N df T' h' a' w'→Q .normal a' w'):∀(R:List Oper) {T:Sl} {h:aB} {a:Act} {w:World},(∀o∈R,∀d,o.dst=some d→d<N)→
  St w0 μ0 h0 N df T h a w→zd8 P ops R T h K→wpListIn (FW r) n P ops.toArray Q R a w
 |[],_,_,_,_,_,s,hv=>hk _ _ _ _ hv s
 |o::R,_,_,_,_,hd,s,hv=>nW s (hd o (by simp)) hv fun T' h' a' w' hv' s'=>zV4 hk R (fun o ho=>hd o (by simp[ho])) s' hv'
end Go.Vt
