import Derived.Test.YtdabfkmhkoppcaaGreatDoorVtD13
import Derived.Test.YtdabfkmhkoppcaaGreatDoorVtA1
set_option linter.all false
set_option maxRecDepth 100000
open Int renaming le_refl→kz4
open List renaming cons_append→kr0,foldl_cons→kE2,length_append→kq3,length_cons→kr4,length_drop→kx9,length_eq_zero_iff→ku2,length_erase_of_mem→kA8,length_take→kt3,mem_of_mem_drop→kC1,mem_of_mem_take→ky1,take_append_drop→ku9
open Nat renaming le_of_eq→kJ8,le_refl→ks0,zero_le→kt1
open Go.Vt renaming dL→J0,mkV→J1
open Nat renaming reduceBEq→J2,reduceEqDiff→J3,reduceLT→J4,reduceLeDiff→J5,reduceAdd→J6,reduceMul→J7,reduceSub→J8
namespace Go.Vt.Tryz
open Go.Proofs Go.Vt.Al
theorem VC.into {P:Program} {f:FuncId} {avs:List V} {sz ver v2 v3 len:Nat} {xs xs2:List (List D)} {Post Post':V→aB→Prop} (hv:ver<v3) (hc:VC P f avs [.arr false sz ver xs] Post)
  (hp:∀r h',Post r h'→Post' r h'∨(r = .one (.own 1 v2 len)∧h'=[.arr false sz ver xs,.arr false sz v2 xs2]∧Post' (.one (.own 0 v3 len)) [.arr false sz v3 xs2])):VC P f avs [.arr false sz ver xs] Post':=by
 refine⟨hc.1,fun w μ args H hl ha=>(hc.2 w μ args H hl ha).mono ?_⟩;rintro e w' ⟨r,x,h',μ',e1,p,H',R,g⟩;rcases hp r h' p with q|⟨rfl,rfl,q⟩
 ·exact⟨r,x,h',μ',e1,q,H',R,g⟩
 have hlv:∀b,Lv (μ'.put 0 (μ' 1)) [.arr false sz v3 xs2] b→Lv μ' [.arr false sz ver xs,.arr false sz v2 xs2] b:=by
  rintro b ⟨id,o,h1,h2,h3⟩;rcases id with _|id
  ·exact⟨1,_,rfl,rfl,by rw[ko3]at h3;exact h3⟩
  ·simp at h1
 have hmu:∀b,Mut (μ'.put 0 (μ' 1)) [.arr false sz v3 xs2] b→Mut μ' [.arr false sz ver xs,.arr false sz v2 xs2] b:=by
  rintro b (h|h)
  ·exact .inl (hlv b h)
  ·exact .inr h
 refine⟨_,x,[.arr false sz v3 xs2],μ'.put 0 (μ' 1),e1,q,?_,?_,?_⟩
 ·refine⟨?_,?_,?_,?_,H'.old,?_,fun b c e=>⟨(H'.tab b c e).1,fun hl=>(H'.tab b c e).2 (hlv b hl)⟩⟩
  ·intro id ty cells h;rcases id with _|id<;>simp at h
  ·intro id ty fz s v ys h;rcases id with _|id
   ·simp at h;obtain⟨rfl,rfl,rfl,rfl,rfl⟩:=h;rw[ko3];rcases H'.arr 1 (ty:=none) false sz v2 xs2 rfl with h1|⟨b,cs,T,h1,h2,h3,h4,h5,h6⟩
    ·exact .inl h1
    ·refine .inr ⟨b,cs,T,h1,h2,h3,h4,h5,fun i j e y g1 g2=>?_⟩;obtain⟨u,k1,k2⟩:=h6 i j e y g1 g2;exact⟨u,k1,k2.step (fun _ _ _=>rfl) (fun b hb=>.inl (hmu b hb))⟩
   ·simp at h
  ·intro i j o o' b h1 h2 _ _ _ _;rcases i with _|i
   ·rcases j with _|j
    ·rfl
    ·simp at h2
   ·simp at h1
  ·intro i o b h1 h2 h3;rcases i with _|i
   ·rw[ko3]at h3;exact H'.off 1 _ b rfl rfl h3
   ·simp at h1
  ·intro id o b h1 h2;rcases id with _|id
   ·simp at h1;subst h1;trivial
   ·simp at h1
 ·cases R with
  |one h1 h2=>
   refine .one h1 ?_;cases h2 with
   |own g1 g2 g3 g4 g5 g6=>
    simp at g1;obtain⟨rfl,rfl,rfl,rfl⟩:=g1;exact .own (ty:=none) (fz:=false) (sz:=sz) (xs:=xs2) rfl g2 (by rw[ko3];exact g3) g4 g5 g6
   |ownNil g1 g2=>exact .ownNil (ty:=none) (fz:=false) (sz:=sz) (xs:=xs2) rfl (by rw[ko3];exact g2)
   |ownOld g1 g2=>
    simp at g1;omega
   |ownDead g1=>simp at g1
 ·refine⟨g.os,g.tape,g.output,g.size,g.out,g.block,g.shape,fun b hb=>g.fresh b (hlv b hb),ks0 _,?_,?_,?_⟩
  ·intro id ty cells h;rcases id with _|id<;>simp at h
  ·intro id ty fz s v ys h;rcases id with _|id
   ·simp at h;obtain⟨rfl,rfl,rfl,rfl,rfl⟩:=h;exact .inr ⟨false,sz,v3,xs2,none,rfl,.inr hv⟩
   ·simp at h
  ·intro id h;rcases id with _|id<;>simp at h
def fv (l:List Int):Nat:=l.length
def rws (A N:List Int):List (List D):=List.zipWith (fun a k=>[.int .i64 a,.int .i64 k]) A N
theorem j07:∀(n:Nat) (t:List Int) (k:Int),t.length≤n→k≤dG t k:=by
 intro n;induction n with
 |zero=>
  intro t k h;have:t=[]:=ku2.1 (by omega);subst this;rw[zI (by simp)];exact kz4 _
 |succ n ih=>
  intro t k h;by_cases hk:k∈t
  ·rw[dG,dif_pos hk];have:=ih (t.erase k) (k+1) (by rw[kA8 hk];omega);omega
  ·rw[zI hk];exact kz4 _
theorem ja0 (t:List Int) (k:Int):k≤dG t k:=j07 t.length t k (ks0 _)
def wb (fr to tk:List Int) (v:Nat) (A:List Int) (w:WS):aI:=.box [.own 1 v A.length,.d (.sl (nums fr)),.d (.sl (nums to)),.d (.int .i64 w.next),.d (.sl (nums tk)),.own 2 (fv w.free) w.free.length]
def wa (v:Nat) (A:List Int) (w:WS) (J:List (List D)):aI:=.arr false 2 v (rws A w.nums++J)
def wf (w:WS):aI:=.arr false 1 (fv w.free) (nums w.free)
theorem j08 {tk A:List Int} {sb:Int→Int} {n:Int} {w:WS}:(cK tk sb A n w).2.free.length≤w.free.length+1:=by
 unfold cK;cases cC A n with
 |some i=>simp only;split<;>simp
 |none=>
  have:∀l,(bub n l).length=l.length+1:=by
   intro l;induction l with
   |nil=>rfl
   |cons y r ih=>unfold bub;split<;>simp[ih]
  simp only[lD];split
  ·simp
  ·simp[this]
def Bh (w w':WS) (c:Nat):Prop:=w'.nums.length=w.nums.length∧w.next≤w'.next∧w'.free.length≤w.free.length+c
theorem Bh.refl (w:WS):Bh w w 0:=⟨rfl,kz4 _,ks0 _⟩
theorem Bh.trans {a b c:WS} {m n:Nat} (h1:Bh a b m) (h2:Bh b c n):Bh a c (m+n):=⟨h2.1.trans h1.1,Int.le_trans h1.2.1 h2.2.1,by have:=h1.2.2;have:=h2.2.2;omega⟩
theorem Bh.mono {a b:WS} {m n:Nat} (h:Bh a b m) (hm:m≤n):Bh a b n:=⟨h.1,h.2.1,by have:=h.2.2;omega⟩
section
variable {tk:List Int} {sb:Int→Int} {A:List Int}
theorem zI8 (n:Int) (w:WS):Bh w (cK tk sb A n w).2 1:=by
 refine⟨?_,?_,j08⟩
 ·unfold cK;cases cC A n with
  |some i=>simp only;split<;>simp
  |none=>rfl
 ·unfold cK;cases cC A n with
  |some i=>
   simp only;split
   ·have:=ja0 tk w.next;simp only;omega
   ·exact kz4 _
  |none=>exact kz4 _
theorem lE:∀(l:List Ty) (w:WS),tyF.go tk sb A l w=aX (tyF tk sb A) l w
 |[],_=>rfl
 |t::r,w=>by simp only[tyF.go,aX,lE r]
theorem zh9 {α β:Type} {f:α→WS→β×WS}:∀(l r:List α) (w:WS),aX f (l++r) w=((aX f l w).1++(aX f r (aX f l w).2).1,(aX f r (aX f l w).2).2)
 |[],_,_=>rfl
 |a::l,r,w=>by simp only[kr0,aX,zh9 l r]
theorem ja1 {α β:Type} {f:α→WS→β×WS} {l:List α} {i:Nat} {a:α} (h:l[i]?=some a) (w:WS):aX f (l.take (i+1)) w=((aX f (l.take i) w).1++[(f a (aX f (l.take i) w).2).1],(f a (aX f (l.take i) w).2).2):=by
 rw[List.take_add_one,h];simp only[Option.toList_some,zh9,aX]
theorem zI9 {α β:Type} {f:α→WS→β×WS}:∀(l:List α) (w:WS),(aX f l w).1.length=l.length
 |[],_=>rfl
 |a::l,w=>by simp only[aX,kr4,zI9 l]
theorem mP {α β:Type} {f:α→WS→β×WS} {c:α→Nat}:∀(l:List α),(∀a∈l,∀w,Bh w (f a w).2 (c a))→∀w,Bh w (aX f l w).2 (aK c l)
 |[],_,w=>Bh.refl w
 |a::l,h,w=>(h a (by simp) w).trans (mP l (fun b hb=>h b (by simp[hb])) _)
theorem j09 {α β:Type} {f:α→WS→β×WS} {c:α→Nat} {l:List α} (h:∀a∈l,∀w,Bh w (f a w).2 (c a)) (i:Nat) (w:WS):Bh w (aX f (l.take i) w).2 (aK c l)∧(aX f (l.take i) w).2.next≤(aX f l w).2.next:=by
 have h1:=mP (f:=f) (c:=c) (l.take i) (fun a ha=>h a (ky1 ha)) w;refine⟨h1.mono (oY l i),?_⟩;conv=>rhs;rw[←ku9 i l,zh9]
 exact(mP (f:=f) (c:=c) (l.drop i) (fun a ha=>h a (kC1 ha)) _).2.1
theorem qM:∀(t:Ty) (w:WS),Bh w (tyF tk sb A t w).2 (tyn t):=by
 intro t;induction t using Ty.ind with
 |h k n l ih=>
 intro w;simp only[tyF,tyn,lE,mK];refine Bh.trans (b:=if k=gN then (cK tk sb A n w).2 else w) ?_ (mP l ih _);split
 ·exact zI8 n w
 ·exact(Bh.refl w).mono (kt1 _)
theorem zJ0 (l:List Ty) (w:WS):Bh w (aX (tyF tk sb A) l w).2 (aK tyn l):=mP l (fun t _ w=>qM t w) w
theorem zi0 (c:Ct) (w:WS):Bh w (ctF tk sb A c w).2 (ctn c):=by
 simp only[ctF,lE,tW];exact(zJ0 c.args w).mono (by omega)
end
theorem j10 (l:List Int) (n:Int):(lD l n).length≤l.length+1:=by
 have:∀l,(bub n l).length=l.length+1:=by
  intro l;induction l with
  |nil=>rfl
  |cons y r ih=>unfold bub;split<;>simp[ih]
 unfold lD;split
 ·omega
 ·simp[this]
theorem zi1:∀(q:List Int),(dH q).length≤q.length:=by
 have:∀(q acc:List Int),(q.foldl (fun out k=>if 0≤k then lD out k else out) acc).length≤acc.length+q.length:=by
  intro q;induction q with
  |nil=>intro acc;simp
  |cons k q ih=>
   intro acc;simp only[kE2,kr4];split
   ·have:=ih (lD acc k);have:=j10 acc k;omega
   ·have:=ih acc;omega
 intro q;have:=this q [];simpa[dH]using this
theorem eS {A l:List Int} {w:WS} (h:w.nums.length=A.length):(aQ l.length w).nums.length=(A++l).length:=by simp[aQ,h]
theorem jQ {α β:Type} {f:α→WS→β×WS} {c:α→Nat} {k:Nat}:∀(l:List α),(∀a∈l,∀w,w.nums.length=k→Bh w (f a w).2 (c a))→∀w,w.nums.length=k→Bh w (aX f l w).2 (aK c l)
 |[],_,w,_=>Bh.refl w
 |a::l,h,w,hw=>(h a (by simp) w hw).trans (jQ l (fun b hb=>h b (by simp[hb])) _ ((h a (by simp) w hw).1.trans hw))
theorem ja2 {α β:Type} {f:α→WS→β×WS} {c:α→Nat} {k:Nat} {l:List α} (h:∀a∈l,∀w,w.nums.length=k→Bh w (f a w).2 (c a)) (i:Nat) (w:WS) (hw:w.nums.length=k):Bh w (aX f (l.take i) w).2 (aK c (l.take i))∧(aX f (l.take i) w).2.next≤(aX f l w).2.next:=by
 have h1:=jQ (f:=f) (c:=c) (l.take i) (fun a ha=>h a (ky1 ha)) w hw;refine⟨h1,?_⟩;conv=>rhs;rw[←ku9 i l,zh9]
 exact(jQ (f:=f) (c:=c) (l.drop i) (fun a ha=>h a (kC1 ha)) _ (h1.1.trans hw)).2.1
section
variable {tk:List Int} {sb:Int→Int}
def fnF (tk:List Int) (sb:Int→Int) (A:List Int) (f:FnE) (w:WS):FnE×WS:=
 ((dH ((cL tk sb (A++f.1) f.2.2 (aS tk sb (A++f.1) f.2.1 (aQ f.1.length w)).2).2.nums.drop A.length),(aS tk sb (A++f.1) f.2.1 (aQ f.1.length w)).1,(cL tk sb (A++f.1) f.2.2 (aS tk sb (A++f.1) f.2.1 (aQ f.1.length w)).2).1),
  dO A.length (cL tk sb (A++f.1) f.2.2 (aS tk sb (A++f.1) f.2.1 (aQ f.1.length w)).2).2)
def eD (tk:List Int) (sb:Int→Int) (A:List Int) (x:ByteArray×Stx) (w:WS):(ByteArray×Stx)×WS:=((x.1,(aS tk sb A x.2 w).1),(aS tk sb A x.2 w).2)
def eT (tk:List Int) (sb:Int→Int) (A:List Int) (x:ByteArray×FnE) (w:WS):(ByteArray×FnE)×WS:=((x.1,(fnF tk sb A x.2 w).1),(fnF tk sb A x.2 w).2)
def jB (tk:List Int) (sb:Int→Int) (A:List Int) (x:iN) (w:WS):iN×WS:=((x.1,(cL tk sb A x.2 w).1),(cL tk sb A x.2 w).2)
theorem ja3 {A:List Int}:∀(l:List (ByteArray×Stx)) (w:WS),aS.goS tk sb A l w=aX (eD tk sb A) l w
 |[],w=>by rw[aS.goS];rfl
 |(s,x)::l,w=>by rw[aS.goS];simp only[aX,eD,ja3 l]
theorem ja4 {A:List Int}:∀(l:List (ByteArray×FnE)) (w:WS),aS.goF tk sb A l w=aX (eT tk sb A) l w
 |[],w=>by rw[aS.goF];rfl
 |(s,p,x,q,y)::l,w=>by rw[aS.goF];simp only[aX,eT,fnF,cL,ja4 l,kq3]
theorem ja5 {A:List Int}:∀(l:List iN) (w:WS),aS.goG tk sb A l w=aX (jB tk sb A) l w
 |[],w=>by rw[aS.goG];rfl
 |(s,q,y)::l,w=>by rw[aS.goG];simp only[aX,jB,cL,ja5 l]
theorem sI {A:List Int} (ts:List Tym) (vs:List Vam) (ss:List (ByteArray×Stx)) (fs:List (ByteArray×FnE)) (gs:List iN) (w:WS):aS tk sb A (.mk ts vs ss fs gs) w =
  (.mk (aX (cR tk sb A) ts w).1 (aX (dK tk sb A) vs (aX (cR tk sb A) ts w).2).1 (aX (eD tk sb A) ss (aX (dK tk sb A) vs (aX (cR tk sb A) ts w).2).2).1 (aX (eT tk sb A) fs (aX (eD tk sb A) ss (aX (dK tk sb A) vs (aX (cR tk sb A) ts w).2).2).2).1
   (aX (jB tk sb A) gs (aX (eT tk sb A) fs (aX (eD tk sb A) ss (aX (dK tk sb A) vs (aX (cR tk sb A) ts w).2).2).2).2).1,
   (aX (jB tk sb A) gs (aX (eT tk sb A) fs (aX (eD tk sb A) ss (aX (dK tk sb A) vs (aX (cR tk sb A) ts w).2).2).2).2).2):=by
 rw[aS];simp only[ja3,ja4,ja5]
theorem wJ {A:List Int} (m:Tym) (w:WS):Bh w (cR tk sb A m w).2 (dC m):=by
 have h:=(qM (tk:=tk) (sb:=sb) (A:=A) m.t w).trans (mP (f:=ctF tk sb A) (c:=ctn) m.cts (fun c _ w=>zi0 c w) (tyF tk sb A m.t w).2);exact h.mono (by rw[qE];omega)
theorem wK {A:List Int} (m:Vam) (w:WS):Bh w (dK tk sb A m w).2 (dJ m):=(qM (tk:=tk) (sb:=sb) (A:=A) m.s.t w).mono (by rw[wD];omega)
theorem kp5 {A l:List Int} {w w1:WS} {c:Nat} (hw:w.nums.length=A.length) (h:Bh (aQ l.length w) w1 c):Bh w (dO A.length w1) c:=by
 refine⟨?_,h.2.1,h.2.2⟩;have:=h.1;rw[eS hw]at this;simp only[dO,kt3,this,kq3];omega
theorem kM:∀(s:Stx) (A:List Int) (w:WS),w.nums.length=A.length→Bh w (aS tk sb A s w).2 (stn s):=by
 intro s;induction s using Stx.ind with
 |h ts vs ss fs gs i1 i2 i3=>
 intro A w hw;rw[sI];simp only[stn,qB,qC,qD];have b1:=mP (f:=cR tk sb A) (c:=dC) ts (fun m _ w=>wJ m w) w;have b2:=mP (f:=dK tk sb A) (c:=dJ) vs (fun m _ w=>wK m w) (aX (cR tk sb A) ts w).2;generalize (aX (dK tk sb A) vs (aX (cR tk sb A) ts w).2).2=w2 at b2 ⊢;have b12:=b1.trans b2;have b3:=jQ (f:=eD tk sb A) (c:=eZ) (k:=A.length) ss (fun x hx w hw=>(i1 x hx A w hw).mono (by rw[tU];omega)) w2 (b12.1.trans hw);generalize (aX (eD tk sb A) ss w2).2=w3 at b3 ⊢;have b13:=b12.trans b3;have b4:=jQ (f:=eT tk sb A) (c:=eQ) (k:=A.length) fs (fun x hx w hw=>by
  have k1:=(i2 x hx).1 (A++x.2.1) (aQ x.2.1.length w) (eS hw);have h2:=k1.1.trans (eS (l:=x.2.1) hw);have k2:=(i2 x hx).2 (A++x.2.1++x.2.2.2.1) (aQ x.2.2.2.1.length (aS tk sb (A++x.2.1) x.2.2.1 (aQ x.2.1.length w)).2) (eS h2);have k3:=kp5 hw (k1.trans (kp5 h2 k2));exact k3.mono (by rw[qH];omega)) w3 (b13.1.trans hw)
 generalize (aX (eT tk sb A) fs w3).2=w4 at b4 ⊢;have b14:=b13.trans b4;have b5:=jQ (f:=jB tk sb A) (c:=fJ) (k:=A.length) gs (fun x hx w hw=>by
  have k1:=i3 x hx (A++x.2.1) (aQ x.2.1.length w) (eS hw);exact(kp5 hw k1).mono (by rw[tV];omega)) w4 (b14.1.trans hw)
 exact(b14.trans b5).mono (by omega)
theorem uD {A:List Int} (a:List Int×Stx) (w:WS) (hw:w.nums.length=A.length):Bh w (cL tk sb A a w).2 (stn a.2):=kp5 hw (kM a.2 _ _ (eS hw))
theorem zi2 {A:List Int} (f:FnE) (w:WS) (hw:w.nums.length=A.length):Bh w (fnF tk sb A f w).2 (stn f.2.1+stn f.2.2.2):=by
 have k1:=kM (tk:=tk) (sb:=sb) f.2.1 (A++f.1) (aQ f.1.length w) (eS hw);have h2:=k1.1.trans (eS (l:=f.1) hw);exact kp5 hw (k1.trans (uD f.2.2 _ h2))
end
def gS (x:ByteArray×Stx):ByteArray×Stx:=(x.1,bH ltN x.2)
def gF (x:ByteArray×FnE):ByteArray×FnE:=(x.1,x.2.1,bH ltN x.2.2.1,x.2.2.2.1,bH ltN x.2.2.2.2)
def gG (x:iN):iN:=(x.1,x.2.1,bH ltN x.2.2)
theorem j11:∀(n:Nat) (t:List Int) (k:Int),t.length≤n→dG t k≤k+t.length:=by
 intro n;induction n with
 |zero=>
  intro t k h;have:t=[]:=ku2.1 (by omega);subst this;rw[zI (by simp)];simp
 |succ n ih=>
  intro t k h;by_cases hk:k∈t
  ·rw[dG,dif_pos hk];have h2:=kA8 hk;have h3:=List.length_pos_of_mem hk;have:=ih (t.erase k) (k+1) (by omega);omega
  ·rw[zI hk];omega
def Nb (C:Nat) (w w':WS) (c:Nat):Prop:=w'.next≤w.next+((c*C:Nat):Int)
theorem Nb.refl (C:Nat) (w:WS):Nb C w w 0:=by unfold Nb;simp
theorem Nb.trans {C:Nat} {a b c:WS} {m n:Nat} (h1:Nb C a b m) (h2:Nb C b c n):Nb C a c (m+n):=by
 unfold Nb at *;rw[Nat.add_mul];omega
theorem Nb.mono {C:Nat} {a b:WS} {m n:Nat} (h:Nb C a b m) (hm:m≤n):Nb C a b n:=by
 unfold Nb at *;have:=Nat.mul_le_mul_right C hm;omega
section
variable {tk:List Int} {sb:Int→Int}
theorem j12 {A:List Int} (n:Int) (w:WS):Nb (tk.length+1) w (cK tk sb A n w).2 1:=by
 unfold Nb cK;have h:=j11 tk.length tk w.next (ks0 _);cases cC A n with
 |some i=>
  simp only;split
  ·simp only;omega
  ·simp only;omega
 |none=>simp only;omega
theorem qN {α β:Type} {f:α→WS→β×WS} {c:α→Nat} {C:Nat}:∀(l:List α),(∀a∈l,∀w,Nb C w (f a w).2 (c a))→∀w,Nb C w (aX f l w).2 (aK c l)
 |[],_,w=>Nb.refl C w
 |a::l,h,w=>(h a (by simp) w).trans (qN l (fun b hb=>h b (by simp[hb])) _)
theorem zJ1 {A:List Int}:∀(t:Ty) (w:WS),Nb (tk.length+1) w (tyF tk sb A t w).2 (tyn t):=by
 intro t;induction t using Ty.ind with
 |h k n l ih=>
 intro w;simp only[tyF,tyn,lE,mK];refine Nb.trans (b:=if k=gN then (cK tk sb A n w).2 else w) ?_ (qN l ih _);split
 ·exact j12 n w
 ·exact(Nb.refl _ w).mono (kt1 _)
theorem j13 {A:List Int} (c:Ct) (w:WS):Nb (tk.length+1) w (ctF tk sb A c w).2 (ctn c):=by
 simp only[ctF,lE,tW];exact(qN c.args (fun t _ w=>zJ1 t w) w).mono (by omega)
theorem j14 {A:List Int} (m:Tym) (w:WS):Nb (tk.length+1) w (cR tk sb A m w).2 (dC m):=by
 have h:=(zJ1 (tk:=tk) (sb:=sb) (A:=A) m.t w).trans (qN (f:=ctF tk sb A) (c:=ctn) m.cts (fun c _ w=>j13 c w) (tyF tk sb A m.t w).2);exact h.mono (by rw[qE];omega)
theorem j15 {A:List Int} (m:Vam) (w:WS):Nb (tk.length+1) w (dK tk sb A m w).2 (dJ m):=(zJ1 (tk:=tk) (sb:=sb) (A:=A) m.s.t w).mono (by rw[wD];omega)
theorem j16:∀(s:Stx) (A:List Int) (w:WS),Nb (tk.length+1) w (aS tk sb A s w).2 (stn s):=by
 intro s;induction s using Stx.ind with
 |h ts vs ss fs gs i1 i2 i3=>
 intro A w;rw[sI];simp only[stn,qB,qC,qD];have b1:=qN (f:=cR tk sb A) (c:=dC) ts (fun m _ w=>j14 m w) w;have b2:=qN (f:=dK tk sb A) (c:=dJ) vs (fun m _ w=>j15 m w) (aX (cR tk sb A) ts w).2;generalize (aX (dK tk sb A) vs (aX (cR tk sb A) ts w).2).2=w2 at b2 ⊢;have b3:=qN (f:=eD tk sb A) (c:=eZ) (C:=tk.length+1) ss (fun x hx w=>(i1 x hx A w).mono (by rw[tU];omega)) w2;generalize (aX (eD tk sb A) ss w2).2=w3 at b3 ⊢;have b4:=qN (f:=eT tk sb A) (c:=eQ) (C:=tk.length+1) fs (fun x hx w=>by
  have k1:=(i2 x hx).1 (A++x.2.1) (aQ x.2.1.length w);have k2:=(i2 x hx).2 (A++x.2.1++x.2.2.2.1) (aQ x.2.2.2.1.length (aS tk sb (A++x.2.1) x.2.2.1 (aQ x.2.1.length w)).2);have k3:Nb (tk.length+1) w (eT tk sb A x w).2 _:=k1.trans k2;exact k3.mono (by rw[qH];omega)) w3
 generalize (aX (eT tk sb A) fs w3).2=w4 at b4 ⊢;have b5:=qN (f:=jB tk sb A) (c:=fJ) (C:=tk.length+1) gs (fun x hx w=>by
  have k1:=i3 x hx (A++x.2.1) (aQ x.2.1.length w);have k3:Nb (tk.length+1) w (jB tk sb A x w).2 _:=k1;exact k3.mono (by rw[tV];omega)) w4
 exact((((b1.trans b2).trans b3).trans b4).trans b5).mono (by omega)
end
theorem ja6 {α:Type} {lt:ByteArray→ByteArray→Bool} {nm:α→ByteArray} {f:α→Nat} {x:α}:∀l:List α,aK f (fA lt nm x l)=f x+aK f l
 |[]=>rfl
 |y::r=>by unfold fA;split<;>simp only[aK,ja6 r]<;>omega
theorem ja7 {α:Type} {f:α→Nat}:∀(l r:List α),aK f (l++r)=aK f l+aK f r
 |[],r=>by simp[aK]
 |a::l,r=>by simp only[kr0,aK,ja7 l r];omega
theorem ja8 {α:Type} {f:α→Nat}:∀l:List α,aK f l.reverse=aK f l
 |[]=>rfl
 |a::l=>by simp only[List.reverse_cons,ja7,ja8 l,aK];omega
theorem ja9 {α:Type} {lt:ByteArray→ByteArray→Bool} {nm:α→ByteArray} {f:α→Nat} (l:List α):aK f (dV lt nm l)=aK f l:=by
 have:∀(l acc:List α),aK f (l.foldl (fun acc x=>fA lt nm x acc) acc)=aK f acc+aK f l:=by
  intro l;induction l with
  |nil=>intro acc;simp[aK]
  |cons x l ih=>intro acc;simp only[kE2,ih,ja6,aK];omega
 unfold dV;rw[ja8,this];simp[aK]
theorem zJ2 {α β:Type} {f:β→Nat} {g:α→β}:∀l:List α,aK f (l.map g)=aK (fun a=>f (g a)) l
 |[]=>rfl
 |a::l=>by simp only[List.map_cons,aK,zJ2 l]
theorem uE {α:Type} {f g:α→Nat}:∀{l:List α},(∀a∈l,f a=g a)→aK f l=aK g l
 |[],_=>rfl
 |a::l,h=>by
  simp only[aK];rw[h a (by simp),uE (f:=f) (g:=g) (l:=l) fun b hb=>h b (List.mem_cons_of_mem _ hb)]
theorem wL {α β:Type} {f:α→Nat} {g:β→Nat} {F:α→WS→β×WS} {k:Nat}:∀{l:List α},(∀a∈l,∀w,w.nums.length=k→g (F a w).1≤f a∧(F a w).2.nums.length=k)→∀w,w.nums.length=k→aK g (aX F l w).1≤aK f l
 |[],_,_,_=>ks0 _
 |a::l,h,w,hw=>by
  have h1:=h a (by simp) w hw;have h2:=wL (g:=g) (f:=f) (F:=F) (k:=k) (l:=l) (fun b hb=>h b (by simp[hb])) (F a w).2 h1.2;simp only[aX,aK];omega
theorem zP (lt:ByteArray→ByteArray→Bool):∀s:Stx,stn (bH lt s)=stn s:=by
 intro s;induction s using Stx.ind with
 |h ts vs ss fs gs i1 i2 i3=>
 simp only[bH,stn,qB,qC,qD,ja9,sB,sC,sD,zJ2];have e1:aK (fun a:ByteArray×Stx=>eZ (a.1,bH lt a.2)) ss=aK eZ ss:=uE fun a ha=>by simp only[eZ,i1 a ha]
 have e2:aK (fun a:ByteArray×FnE=>eQ (a.1,a.2.1,bH lt a.2.2.1,a.2.2.2.1,bH lt a.2.2.2.2)) fs=aK eQ fs:=uE fun a ha=>by simp only[eQ,(i2 a ha).1,(i2 a ha).2]
 have e3:aK (fun a:iN=>fJ (a.1,a.2.1,bH lt a.2.2)) gs=aK fJ gs:=uE fun a ha=>by simp only[fJ,i3 a ha]
 rw[e1,e2,e3]
section
variable {tk:List Int} {sb:Int→Int}
theorem zJ3 {A:List Int}:∀(t:Ty) (w:WS),tyn (tyF tk sb A t w).1=tyn t:=by
 intro t;induction t using Ty.ind with
 |h k n l ih=>
 intro w;have h:∀(l:List Ty),(∀t∈l,∀w,tyn (tyF tk sb A t w).1=tyn t)→∀w,tyn.go (tyF.go tk sb A l w).1=tyn.go l:=by
  intro l;induction l with
  |nil=>intro _ w;rfl
  |cons t r ih2=>intro h w;simp only[tyF.go,tyn.go,h t (by simp) w,ih2 fun t ht=>h t (by simp[ht])]
 simp only[tyF,tyn,h l ih]
theorem j17 {A:List Int} (c:Ct) (w:WS):ctn (ctF tk sb A c w).1=ctn c:=by
 have h:∀(l:List Ty) (w:WS),tyn.go (tyF.go tk sb A l w).1=tyn.go l:=by
  intro l;induction l with
  |nil=>intro w;rfl
  |cons t r ih2=>intro w;simp only[tyF.go,tyn.go,zJ3 t w,ih2]
 simp only[ctF,ctn,h]
theorem j18 {A:List Int} (m:Tym) (w:WS):dC (cR tk sb A m w).1=dC m:=by
 have h:∀(l:List Ct) (w:WS),aK ctn (aX (ctF tk sb A) l w).1=aK ctn l:=by
  intro l;induction l with
  |nil=>intro w;rfl
  |cons t r ih2=>intro w;simp only[aX,aK,j17 t w,ih2]
 simp only[cR,dC,zJ3,h]
theorem j19 {A:List Int} (m:Vam) (w:WS):dJ (dK tk sb A m w).1=dJ m:=by simp only[dK,dJ,zJ3]
theorem zJ4:∀(s:Stx) (A:List Int) (w:WS),w.nums.length=A.length→stn (aS tk sb A s w).1≤stn s:=by
 intro s;induction s using Stx.ind with
 |h ts vs ss fs gs i1 i2 i3=>
 intro A w hw;rw[sI];simp only[stn,qB,qC,qD];have b1:=mP (f:=cR tk sb A) (c:=dC) ts (fun m _ w=>wJ m w) w;have b2:=mP (f:=dK tk sb A) (c:=dJ) vs (fun m _ w=>wK m w) (aX (cR tk sb A) ts w).2;have c1:=wL (f:=dC) (g:=dC) (F:=cR tk sb A) (k:=A.length) (l:=ts) (fun m _ w hw=>⟨kJ8 (j18 m w),(wJ m w).1.trans hw⟩) w hw;have hw1:=b1.1.trans hw;have c2:=wL (f:=dJ) (g:=dJ) (F:=dK tk sb A) (k:=A.length) (l:=vs) (fun m _ w hw=>⟨kJ8 (j19 m w),(wK m w).1.trans hw⟩) _ hw1;have hw2:=b2.1.trans hw1;generalize (aX (dK tk sb A) vs (aX (cR tk sb A) ts w).2).2=w2 at hw2 ⊢;have c3:=wL (f:=eZ) (g:=eZ) (F:=eD tk sb A) (k:=A.length) (l:=ss) (fun x hx w hw=>⟨by have:=i1 x hx A w hw;simp only[eD,eZ];omega,(kM x.2 A w hw).1.trans hw⟩) w2 hw2;have b3:=jQ (f:=eD tk sb A) (c:=eZ) (k:=A.length) ss (fun x _ w hw=>(kM x.2 A w hw).mono (by rw[tU];omega)) w2 hw2;have hw3:=b3.1.trans hw2;generalize (aX (eD tk sb A) ss w2).2=w3 at hw3 ⊢;have c4:=wL (f:=eQ) (g:=eQ) (F:=eT tk sb A) (k:=A.length) (l:=fs) (fun x hx w hw=>by
  have h1:=(i2 x hx).1 (A++x.2.1) (aQ x.2.1.length w) (eS hw);have k1:=kM (tk:=tk) (sb:=sb) x.2.2.1 (A++x.2.1) (aQ x.2.1.length w) (eS hw);have l1:=k1.1.trans (eS (l:=x.2.1) hw);have h2:=(i2 x hx).2 (A++x.2.1++x.2.2.2.1) (aQ x.2.2.2.1.length (aS tk sb (A++x.2.1) x.2.2.1 (aQ x.2.1.length w)).2) (eS l1);have k2:=kM (tk:=tk) (sb:=sb) x.2.2.2.2 (A++x.2.1++x.2.2.2.1) (aQ x.2.2.2.1.length (aS tk sb (A++x.2.1) x.2.2.1 (aQ x.2.1.length w)).2) (eS l1);have l2:=k2.1.trans (eS (l:=x.2.2.2.1) l1);refine⟨?_,(zi2 x.2 w hw).1.trans hw⟩;simp only[eT,fnF,cL,eQ,dO];have u1:=zi1 ((((aS tk sb (A++x.2.1++x.2.2.2.1) x.2.2.2.2 (aQ x.2.2.2.1.length (aS tk sb (A++x.2.1) x.2.2.1 (aQ x.2.1.length w)).2)).2.nums.take (A++x.2.1).length)).drop A.length);have u2:=zi1 ((aS tk sb (A++x.2.1++x.2.2.2.1) x.2.2.2.2 (aQ x.2.2.2.1.length (aS tk sb (A++x.2.1) x.2.2.1 (aQ x.2.1.length w)).2)).2.nums.drop (A++x.2.1).length);simp only[kx9,kt3,kq3]at u1 u2 l2 ⊢;omega) w3 hw3
 have b4:=jQ (f:=eT tk sb A) (c:=eQ) (k:=A.length) fs (fun x _ w hw=>(zi2 x.2 w hw).mono (by rw[qH];omega)) w3 hw3;have hw4:=b4.1.trans hw3;generalize (aX (eT tk sb A) fs w3).2=w4 at hw4 ⊢;have c5:=wL (f:=fJ) (g:=fJ) (F:=jB tk sb A) (k:=A.length) (l:=gs) (fun x hx w hw=>by
  have h1:=i3 x hx (A++x.2.1) (aQ x.2.1.length w) (eS hw);have k1:=kM (tk:=tk) (sb:=sb) x.2.2 (A++x.2.1) (aQ x.2.1.length w) (eS hw);have l1:=k1.1.trans (eS (l:=x.2.1) hw);refine⟨?_,(uD x.2 w hw).1.trans hw⟩;simp only[jB,cL,fJ];have u1:=zi1 ((aS tk sb (A++x.2.1) x.2.2 (aQ x.2.1.length w)).2.nums.drop A.length);simp only[kx9,kq3]at u1 l1 ⊢;omega) w4 hw4
 omega
end
theorem uF {tk:List Int} {sb:Int→Int} (a:List Int×Stx) (hs:stn a.2<10000000) (ht:tk.length<10000000) :
  (cL tk sb [] a w0).2.next<1000000000000000∧(cL tk sb [] a w0).2.free.length≤stn a.2:=by
 have h1:=j16 (tk:=tk) (sb:=sb) a.2 ([]++a.1) (aQ a.1.length w0);have h2:=uD (tk:=tk) (sb:=sb) (A:=[]) a w0 rfl;refine⟨?_,by have:=h2.2.2;simpa[w0]using this⟩;have h3:(cL tk sb [] a w0).2.next≤0+((stn a.2*(tk.length+1):Nat):Int):=h1;have h4:stn a.2*(tk.length+1)≤10000000*10000000:=Nat.mul_le_mul (by omega) (by omega);omega
theorem zJ5 {tk:List Int} {sb:Int→Int} (a:List Int×Stx) (w:WS) (hw:w.nums=[]):(cL tk sb [] a w).1.1.length≤a.1.length:=by
 have h:=(kM (tk:=tk) (sb:=sb) a.2 ([]++a.1) (aQ a.1.length w) (by simp[aQ,hw])).1;simp only[cL];refine Nat.le_trans (zi1 _) ?_;rw[kx9,h];simp[aQ,hw]
end Go.Vt.Tryz
