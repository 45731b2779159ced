import Derived.Test.YtdabfkmhkoppcaaGreatDoorVtD13
import GoSem.Op.String
set_option linter.all false
set_option maxRecDepth 100000
open Int renaming le_refl→kz4,le_trans→kz7,lt_or_le→kC9
open List renaming append_assoc→kr3,append_nil→ku3,concat_eq_append→kH4,drop_zero→kw7,eq_nil_or_concat→kH3,eq_of_mem_replicate→kA9,filter_append→kA4,filter_cons_of_neg→kz5,filter_cons_of_pos→kw4,filter_eq_nil_iff→kD0,foldl_cons→kE2,getD_eq_getElem?_getD→ku6,getElem?_append_left→kr9,getElem?_append_right→kr5,getElem?_cons_zero→kr6,getElem?_drop→kv4,getElem?_eq_getElem→kr1,getElem?_eq_none→kz0,getElem?_eq_some_iff→kp9,getElem?_of_mem→kw9,getElem?_replicate_of_lt→kF4,getElem?_replicate→kB1,getElem?_reverse→kE1,getElem?_set_ne→ku5,getElem?_set_self→ky4,getElem?_take_of_lt→ks5,length_append→kq3,length_cons→kr4,length_eq_zero_iff→ku2,length_erase_of_mem→kA8,length_nil→kr7,length_pos_of_mem→ky9,length_take→kt3,map_cons→kq1,mem_append→kt5,mem_cons→kt6,mem_erase_of_ne→kB4,mem_filter→kG9,mem_map→ky3,mem_of_getElem?→kq0,mem_of_mem_take→ky1,mem_or_eq_of_mem_set→kv8,mem_reverse→ky6,mem_singleton→kv0,nil_append→kr2,pairwise_cons→kz2,pairwise_singleton→kC8,replicate→kw8,reverse_cons→kz3,reverse_reverse→kE7
open Nat renaming add_sub_cancel_left→kv3,le_refl→ks0,lt_or_ge→ks3,zero_add→kt2
open Option renaming ite_none_right_eq_some→kE9
namespace Go.Vt.Al
def cC:List Int→Int→Option Nat
 |[],_=>none
 |a::l,n=>match cC l n with
  |some i=>some (i+1)
  |none=>if a=n then some 0 else none
theorem iQ {l:List Int} {n:Int}:cC l n=none↔n∉l:=by
 induction l with
 |nil=>simp[cC]
 |cons a l ih=>
  simp only[cC];cases h:cC l n with
  |some i=>
   have:¬(n∉l):=fun hn=>by rw[ih.2 hn]at h;cases h
   simp only[reduceCtorEq,kt6,false_iff];exact fun hn=>this fun hm=>hn (.inr hm)
  |none=>
   have hn:=ih.1 h;simp only[ite_eq_right_iff,reduceCtorEq,imp_false,kt6,not_or];exact⟨fun hne=>⟨fun e=>hne e.symm,hn⟩,fun⟨e,_⟩ g=>e g.symm⟩
theorem sA {l:List Int} {n:Int} {i:Nat} (h:cC l n=some i):i<l.length:=by
 induction l generalizing i with
 |nil=>cases h
 |cons a l ih=>
  simp only[cC]at h;cases h1:cC l n with
  |some j=>rw[h1]at h;cases h;have:=ih h1;simp;omega
  |none=>
   rw[h1]at h;simp only[kE9]at h;obtain⟨_,h⟩:=h;cases h;simp
theorem eR {l r:List Int} {n:Int}:cC (l++r) n=match cC r n with|some i=>some (l.length+i)|none=>cC l n:=by
 induction l with
 |nil=>simp only[kr2,cC,kr7,kt2];cases cC r n<;>rfl
 |cons a l ih=>
  simp only[List.cons_append,cC,ih,kr4];cases cC r n with
  |some i=>simp only[Option.some.injEq];omega
  |none=>rfl
theorem mN {l:List Int} {n:Int} {i:Nat}:cC l n=some i↔l[i]?=some n∧∀j,i<j→l[j]?≠some n:=by
 induction l generalizing i with
 |nil=>simp[cC]
 |cons a l ih=>
  simp only[cC];cases h1:cC l n with
  |some k=>
   have hk:=ih.1 h1;constructor
   ·intro h;cases h;refine⟨by simpa using hk.1,fun j hj=>?_⟩;cases j with
    |zero=>omega
    |succ j=>simpa using hk.2 j (by omega)
   ·rintro⟨e,hl⟩
    congr 1
    cases i with
    |zero=>exact absurd (by simpa using hk.1) (hl (k+1) (by omega))
    |succ i=>
     have:cC l n=some i:=ih.2 ⟨by simpa using e,fun j hj=>by simpa using hl (j+1) (by omega)⟩;rw[h1]at this;cases this;rfl
  |none=>
   have hn:=iQ.1 h1;constructor
   ·intro h;simp only[kE9]at h;obtain⟨rfl,h⟩:=h;cases h;refine⟨by simp,fun j hj=>?_⟩;cases j with
    |zero=>omega
    |succ j=>intro hc;exact hn (kq0 (by simpa using hc))
   ·rintro⟨e,_⟩;cases i with
    |zero=>
     have:a=n:=by simpa using e
     rw[if_pos this]
    |succ i=>exact absurd (kq0 (by simpa using e)) hn
def lf (A B:List Int) (n m:Int):Prop:=cC A n=cC B m∧(cC A n=none→n=m)
def gN:Int:=6
def cX {α β:Type} (R:α→β→Prop):List α→List β→Prop
 |[],[]=>True
 |a::l,b::r=>R a b∧cX R l r
 |_,_=>False
def bub (n:Int):List Int→List Int
 |[]=>[n]
 |y::r=>if n<y then y::bub n r else n::y::r
def lD (l:List Int) (n:Int):List Int:=if n∈l then l else (bub n l.reverse).reverse
theorem zG8 {n m:Int}:∀{l:List Int},m∈bub n l↔m=n∨m∈l
 |[]=>by simp[bub]
 |y::r=>by
  unfold bub;split
  ·simp only[kt6,zG8 (l:=r)];constructor
   ·rintro(h|h|h)<;>simp[h]
   ·rintro(h|h|h)<;>simp[h]
  ·simp only[kt6]
theorem zG9 {l:List Int} {n m:Int}:m∈lD l n↔m=n∨m∈l:=by
 unfold lD;split
 ·rename_i h;exact⟨.inr,fun g=>g.elim (fun e=>e▸h) id⟩
 ·simp[zG8]
def dG (tk:List Int) (k:Int):Int:=if _h:k∈tk then dG (tk.erase k) (k+1)else k
 termination_by tk.length
 decreasing_by
 rw[kA8 _h];have:=ky9 _h;omega
theorem jY4:∀(n:Nat) {t u:List Int} {k:Int},t.length≤n→(∀i,k≤i→(i∈t↔i∈u))→dG t k=dG u k:=by
 intro n;induction n with
 |zero=>
  intro t u k hn h;have:t=[]:=ku2.1 (by omega);subst this;have hu:k∉u:=fun g=>by have:=(h k (kz4 _)).2 g;cases this
  rw[dG,dif_neg (by simp),dG,dif_neg hu]
 |succ n ih=>
  intro t u k hn h;by_cases hk:k∈t
  ·have hu:=(h k (kz4 _)).1 hk;rw[dG,dif_pos hk];rw[dG.eq_def u k,dif_pos hu];refine ih (by rw[kA8 hk];have:=ky9 hk;omega) fun i hi=>?_;rw[kB4 (by omega),kB4 (by omega)];exact h i (by omega)
  ·have hu:k∉u:=fun g=>hk ((h k (kz4 _)).2 g);rw[dG,dif_neg hk,dG,dif_neg hu]
theorem jY5 {t:List Int} {k:Int} (h:k∈t):dG t k=dG t (k+1):=by
 rw[dG,dif_pos h];exact jY4 _ (ks0 _) fun i hi=>kB4 (by omega)
theorem zI {t:List Int} {k:Int} (h:k∉t):dG t k=k:=by rw[dG,dif_neg h]
structure WS where
 nums:List Int
 next:Int
 free:List Int
def cK (tk:List Int) (sb:Int→Int) (A:List Int) (n:Int) (w:WS):Int×WS:=
 match cC A n with
 |some i=>if w.nums.getD i 0<0 then (dG tk w.next,⟨w.nums.set i (dG tk w.next),dG tk w.next+1,w.free⟩)else (w.nums.getD i 0,w)
 |none=>(sb n,⟨w.nums,w.next,lD w.free n⟩)
def aX {α β:Type} (f:α→WS→β×WS):List α→WS→List β×WS
 |[],w=>([],w)
 |a::l,w=>((f a w).1::(aX f l (f a w).2).1,(aX f l (f a w).2).2)
def tyF (tk:List Int) (sb:Int→Int) (A:List Int):Ty→WS→Ty×WS
 |.mk k n l,w=>(.mk k (if k=gN then (cK tk sb A n w).1 else n) (go l (if k=gN then (cK tk sb A n w).2 else w)).1,(go l (if k=gN then (cK tk sb A n w).2 else w)).2)
 where
 go:List Ty→WS→List Ty×WS
  |[],w=>([],w)
  |t::r,w=>((tyF tk sb A t w).1::(go r (tyF tk sb A t w).2).1,(go r (tyF tk sb A t w).2).2)
def ctF (tk:List Int) (sb:Int→Int) (A:List Int) (c:Ct) (w:WS):Ct×WS:=(⟨c.name,(tyF.go tk sb A c.args w).1⟩,(tyF.go tk sb A c.args w).2)
def cR (tk:List Int) (sb:Int→Int) (A:List Int) (m:Tym) (w:WS):Tym×WS:=(⟨m.name,(tyF tk sb A m.t w).1,(aX (ctF tk sb A) m.cts (tyF tk sb A m.t w).2).1⟩,(aX (ctF tk sb A) m.cts (tyF tk sb A m.t w).2).2)
def dK (tk:List Int) (sb:Int→Int) (A:List Int) (m:Vam) (w:WS):Vam×WS:=(⟨m.name,⟨m.s.gens,(tyF tk sb A m.s.t w).1⟩⟩,(tyF tk sb A m.s.t w).2)
def aQ (n:Nat) (w:WS):WS:={ w with nums:=w.nums++kw8 n (-1) }
def dO (n:Nat) (w:WS):WS:={ w with nums:=w.nums.take n }
def dH (l:List Int):List Int:=l.foldl (fun out k=>if 0≤k then lD out k else out) []
def aS (tk:List Int) (sb:Int→Int) (A:List Int):Stx→WS→Stx×WS
 |.mk ts vs ss fs gs,w=>
  let a:=aX (cR tk sb A) ts w
  let b:=aX (dK tk sb A) vs a.2
  let c:=goS A ss b.2
  let d:=goF A fs c.2
  let e:=goG A gs d.2
  (.mk a.1 b.1 c.1 d.1 e.1,e.2)
 where
 goS (A:List Int):List (ByteArray×Stx)→WS→List (ByteArray×Stx)×WS
  |[],w=>([],w)
  |(s,x)::l,w=>
   let a:=aS tk sb A x w
   let b:=goS A l a.2
   ((s,a.1)::b.1,b.2)
 goF (A:List Int):List (ByteArray×List Int×Stx×List Int×Stx)→WS→List (ByteArray×List Int×Stx×List Int×Stx)×WS
  |[],w=>([],w)
  |(s,p,x,q,y)::l,w=>
   let a:=aS tk sb (A++p) x (aQ p.length w)
   let c:=aS tk sb (A++p++q) y (aQ q.length a.2)
   let v:=dO (A.length+p.length) c.2
   let b:=goF A l (dO A.length v)
   ((s,dH (v.nums.drop A.length),a.1,dH (c.2.nums.drop (A.length+p.length)),c.1)::b.1,b.2)
 goG (A:List Int):List (ByteArray×List Int×Stx)→WS→List (ByteArray×List Int×Stx)×WS
  |[],w=>([],w)
  |(s,q,y)::l,w=>
   let c:=aS tk sb (A++q) y (aQ q.length w)
   let b:=goG A l (dO A.length c.2)
   ((s,dH (c.2.nums.drop A.length),c.1)::b.1,b.2)
def cL (tk:List Int) (sb:Int→Int) (A:List Int) (a:List Int×Stx) (w:WS):(List Int×Stx)×WS:=
 ((dH ((aS tk sb (A++a.1) a.2 (aQ a.1.length w)).2.nums.drop A.length),(aS tk sb (A++a.1) a.2 (aQ a.1.length w)).1),dO A.length (aS tk sb (A++a.1) a.2 (aQ a.1.length w)).2)
def w0:WS:=⟨[],0,[]⟩
def bX (a:List Int×Stx):List Int:=(cL [] id [] a w0).2.free
def fA {α:Type} (lt:ByteArray→ByteArray→Bool) (nm:α→ByteArray) (x:α):List α→List α
 |[]=>[x]
 |y::r=>if lt (nm x) (nm y)=true then y::fA lt nm x r else x::y::r
def dV {α:Type} (lt:ByteArray→ByteArray→Bool) (nm:α→ByteArray) (l:List α):List α:=(l.foldl (fun acc x=>fA lt nm x acc) []).reverse
def bH (lt:ByteArray→ByteArray→Bool):Stx→Stx
 |.mk ts vs ss fs gs=>.mk (dV lt (·.name) ts) (dV lt (·.name) vs) (dV lt (·.1) (goS ss)) (dV lt (·.1) (goF fs)) (dV lt (·.1) (goG gs))
 where
 goS:List (ByteArray×Stx)→List (ByteArray×Stx)
  |[]=>[]
  |(s,x)::l=>(s,bH lt x)::goS l
 goF:List (ByteArray×List Int×Stx×List Int×Stx)→List (ByteArray×List Int×Stx×List Int×Stx)
  |[]=>[]
  |(s,p,x,q,y)::l=>(s,p,bH lt x,q,bH lt y)::goF l
 goG:List (ByteArray×List Int×Stx)→List (ByteArray×List Int×Stx)
  |[]=>[]
  |(s,q,y)::l=>(s,q,bH lt y)::goG l
def cG (lt:ByteArray→ByteArray→Bool) (a:List Int×Stx):List Int×Stx:=(cL (bX a) id [] (a.1,bH lt a.2) w0).1
section
variable {tk:List Int} {sb:Int→Int} {A B:List Int}
end
theorem z65 {α:Type} {lt:ByteArray→ByteArray→Bool} {nm:α→ByteArray} {R:α→α→Prop} (hR:∀a b,R a b→nm a=nm b) {x y:α} (h:R x y):∀{l r:List α},cX R l r→cX R (fA lt nm x l) (fA lt nm y r)
 |[],[],_=>⟨h,trivial⟩
 |a::l,b::r,⟨h1,h2⟩=>by
  unfold fA;rw[←hR x y h,←hR a b h1];split
  ·exact⟨h1,z65 hR h h2⟩
  ·exact⟨h,h1,h2⟩
 |[],_::_,h=>h.elim
 |_::_,[],h=>h.elim
theorem z66 {α:Type} {R:α→α→Prop}:∀{l r l' r':List α},cX R l r→cX R l' r'→cX R (l++l') (r++r')
 |[],[],_,_,_,h=>h
 |_::_,_::_,_,_,⟨h1,h2⟩,h=>⟨h1,z66 h2 h⟩
 |[],_::_,_,_,h,_=>h.elim
 |_::_,[],_,_,h,_=>h.elim
theorem z67 {α:Type} {R:α→α→Prop}:∀{l r:List α},cX R l r→cX R l.reverse r.reverse
 |[],[],_=>trivial
 |a::l,b::r,⟨h1,h2⟩=>by
  rw[kz3,kz3];exact z66 (z67 h2) ⟨h1,trivial⟩
 |[],_::_,h=>h.elim
 |_::_,[],h=>h.elim
theorem zJ {α:Type} {lt:ByteArray→ByteArray→Bool} {nm:α→ByteArray} {R:α→α→Prop} (hR:∀a b,R a b→nm a=nm b) {l r:List α} (h:cX R l r):cX R (dV lt nm l) (dV lt nm r):=by
 have:∀(l r p q:List α),cX R l r→cX R p q→cX R (l.foldl (fun acc x=>fA lt nm x acc) p) (r.foldl (fun acc x=>fA lt nm x acc) q):=by
  intro l;induction l with
  |nil=>intro r p q h1 h2;cases r with
   |nil=>exact h2
   |cons=>exact h1.elim
  |cons a l ih=>intro r p q h1 h2;cases r with
   |nil=>exact h1.elim
   |cons b r=>exact ih r _ _ h1.2 (z65 hR h1.1 h2)
 exact z67 (this l r [] [] h trivial)
theorem sB (lt:ByteArray→ByteArray→Bool):∀l,bH.goS lt l=l.map fun a=>(a.1,bH lt a.2)
 |[]=>rfl
 |(s,x)::l=>by simp only[bH.goS,sB lt l,kq1]
theorem sC (lt:ByteArray→ByteArray→Bool):∀l,bH.goF lt l=l.map fun a=>(a.1,a.2.1,bH lt a.2.2.1,a.2.2.2.1,bH lt a.2.2.2.2)
 |[]=>rfl
 |(s,p,x,q,y)::l=>by simp only[bH.goF,sC lt l,kq1]
theorem sD (lt:ByteArray→ByteArray→Bool):∀l,bH.goG lt l=l.map fun a=>(a.1,a.2.1,bH lt a.2.2)
 |[]=>rfl
 |(s,q,y)::l=>by simp only[bH.goG,sD lt l,kq1]
theorem zg9 {α:Type} {R Q:α→α→Prop} {f:α→α}:∀{l r:List α},(∀a∈l,∀b,R a b→Q (f a) (f b))→cX R l r→cX Q (l.map f) (r.map f)
 |[],[],_,_=>trivial
 |a::l,b::r,h,⟨h1,h2⟩=>⟨h a (by simp) b h1,zg9 (fun x hx=>h x (by simp[hx])) h2⟩
 |[],_::_,_,h=>h.elim
 |_::_,[],_,h=>h.elim
def bL:Ty→Int→Prop
 |.mk k n l,m=>(k=gN∧n=m)∨go l m
 where
 go:List Ty→Int→Prop
  |[],_=>False
  |t::r,m=>bL t m∨go r m
theorem sE {m:Int}:∀{l:List Ty},bL.go l m↔∃t∈l,bL t m
 |[]=>by simp[bL.go]
 |t::r=>by simp[bL.go,sE (l:=r)]
def mO (t:Tym) (m:Int):Prop:=bL t.t m∨∃c∈t.cts,bL.go c.args m
def aL:Stx→Int→Prop
 |.mk ts vs ss fs gs,m=>(∃t∈ts,mO t m)∨(∃v∈vs,bL v.s.t m)∨goS ss m∨goF fs m∨goG gs m
 where
 goS:List (ByteArray×Stx)→Int→Prop
  |[],_=>False
  |(_,x)::l,m=>aL x m∨goS l m
 goF:List (ByteArray×List Int×Stx×List Int×Stx)→Int→Prop
  |[],_=>False
  |(_,p,x,q,y)::l,m=>(m∉p∧(aL x m∨(m∉q∧aL y m)))∨goF l m
 goG:List (ByteArray×List Int×Stx)→Int→Prop
  |[],_=>False
  |(_,q,y)::l,m=>(m∉q∧aL y m)∨goG l m
def im (A B:List Int) (n:Int):Int:=match cC A n with
 |some i=>B.getD i 0
 |none=>n
def cI (A B:List Int):Ty→Ty
 |.mk k n l=>.mk k (if k=gN then im A B n else n) (go l)
 where
 go:List Ty→List Ty
  |[]=>[]
  |t::r=>cI A B t::go r
def lW (A B:List Int) (c:Ct):Ct:=⟨c.name,cI.go A B c.args⟩
def gO (A B:List Int) (m:Tym):Tym:=⟨m.name,cI A B m.t,m.cts.map (lW A B)⟩
def iR (A B:List Int) (m:Vam):Vam:=⟨m.name,⟨m.s.gens,cI A B m.s.t⟩⟩
def eJ (A B own out:List Int) (F:Int→Prop):Prop:=
 out.length=own.length∧(∀n,F n→n∉own→im A B n∉out)∧(∀(i j:Nat) (x y u v:Int),i<j→own[i]?=some x→own[j]?=some y→x≠y→out[i]?=some u→out[j]?=some v→u≠v)
def aW (A B:List Int):Stx→Stx→Prop
 |.mk ts vs ss fs gs,.mk ts' vs' ss' fs' gs'=>ts'=ts.map (gO A B)∧vs'=vs.map (iR A B)∧goS A B ss ss'∧goF A B fs fs'∧goG A B gs gs'
 where
 goS (A B:List Int):List (ByteArray×Stx)→List (ByteArray×Stx)→Prop
  |[],r=>r=[]
  |(s,x)::l,r=>∃x' r',r=(s,x')::r'∧aW A B x x'∧goS A B l r'
 goF (A B:List Int):List (ByteArray×List Int×Stx×List Int×Stx)→List (ByteArray×List Int×Stx×List Int×Stx)→Prop
  |[],r=>r=[]
  |(s,p,x,q,y)::l,r=>∃p' x' q' y' r',r=(s,p',x',q',y')::r'∧eJ A B p p' (fun n=>aL x n∨(n∉q∧aL y n))∧aW (A++p) (B++p') x x'∧eJ (A++p) (B++p') q q' (aL y)∧aW (A++p++q) (B++p'++q') y y'∧goF A B l r'
 goG (A B:List Int):List (ByteArray×List Int×Stx)→List (ByteArray×List Int×Stx)→Prop
  |[],r=>r=[]
  |(s,q,y)::l,r=>∃q' y' r',r=(s,q',y')::r'∧eJ A B q q' (aL y)∧aW (A++q) (B++q') y y'∧goG A B l r'
def Good (A B:List Int) (F:Int→Prop):Prop:=∀n,F n→lf A B n (im A B n)
theorem Good.bind {A B own out:List Int} {F:Int→Prop} (hAB:A.length=B.length) (hb:eJ A B own out F) (hG:Good A B fun n=>F n∧n∉own):Good (A++own) (B++out) F:=by
 obtain⟨hlen,h1,h2⟩:=hb;intro n hn;by_cases hm:n∈own
 ·-- one of the binder's own
  cases e:cC own n with
  |none=>exact absurd hm (iQ.1 e)
  |some j=>
   have hj:=mN.1 e;have hjl:=sA e;have ho:∃u,out[j]?=some u:=⟨out[j]'(by omega),kr1 (by omega)⟩;obtain⟨u,hu⟩:=ho;have him:im (A++own) (B++out) n=u:=by
    unfold im;rw[eR,e];simp only[ku6];rw[hAB,kr5 (by omega),kv3,hu];rfl
   rw[him];have hout:cC out u=some j:=by
    refine mN.2 ⟨hu,fun k hk hc=>?_⟩;have hkl:k<own.length:=by
     have:=(kp9.1 hc).1;omega
    obtain⟨y,hy⟩:∃y,own[k]?=some y:=⟨own[k],kr1 hkl⟩;have hne:n≠y:=fun g=>hj.2 k hk (by rw[hy,g]);exact h2 j k n y u u hk hj.1 hy hne hu hc rfl
   refine⟨?_,?_⟩
   ·rw[eR,eR,e,hout,hAB]
   ·intro hc;rw[eR,e]at hc;cases hc
 ·have e:=iQ.2 hm;have g:=hG n ⟨hn,hm⟩;have hc:=h1 n hn hm;have e2:=iQ.2 hc;have him:im (A++own) (B++out) n=im A B n:=by
   unfold im;rw[eR,e];simp only;cases e3:cC A n with
   |none=>rfl
   |some i=>
    have:=sA e3;simp only[ku6];rw[kr9 (by omega)]
  rw[him];refine⟨?_,?_⟩
  ·rw[eR,eR,e,e2];exact g.1
  ·intro h;rw[eR,e]at h;exact g.2 h
theorem zh0 {α:Type} {R:α→α→Prop} {f:α→α}:∀{l:List α},(∀a∈l,R a (f a))→cX R l (l.map f)
 |[],_=>trivial
 |a::l,h=>⟨h a (by simp),zh0 fun x hx=>h x (by simp[hx])⟩
def zH0 (A B A' B':List Int):Prop:=∀n m,lf A B n m→lf A' B' n m
theorem zH0.ext {A B A' B' p q:List Int} (hAB:A.length=B.length) (hAB':A'.length=B'.length) (h:zH0 A B A' B'):zH0 (A++p) (B++q) (A'++p) (B'++q):=by
 intro n m;unfold lf;rw[eR,eR,eR,eR];cases e1:cC p n with
 |some i=>
  cases e2:cC q m with
  |some j=>
   simp only[Option.some.injEq,reduceCtorEq,false_implies,and_true];omega
  |none=>
   simp only[reduceCtorEq,false_implies,and_true];intro hc;have:=sA hc.symm;omega
 |none=>
  cases e2:cC q m with
  |some j=>
   simp only;rintro⟨hc,_⟩;have:=sA hc;omega
  |none=>exact fun hh=>h n m hh
def sF (l:List Int):Prop:=∀(i j:Nat) (x:Int),l[i]?=some x→l[j]?=some x→i=j
theorem sF.idx {l:List Int} (h:sF l) {n:Int} {i:Nat}:cC l n=some i↔l[i]?=some n:=
 ⟨fun e=>(mN.1 e).1,fun e=>mN.2 ⟨e,fun j hj hc=>by have:=h i j n e hc;omega⟩⟩
theorem sF.rev {l:List Int} (h:sF l):sF l.reverse:=by
 intro i j x hi hj;have li:=(kp9.1 hi).1;have lj:=(kp9.1 hj).1;simp only[List.length_reverse]at li lj;rw[kE1 li]at hi;rw[kE1 lj]at hj;have:=h _ _ x hi hj;omega
variable {tk:List Int} {sb:Int→Int}
theorem z68 {A:List Int} {n m:Int} {w:WS} (h:m∈w.free∨(n=m∧m∉A)):m∈(cK tk sb A n w).2.free:=by
 unfold cK;split
 ·rename_i i e;have hm:m∈w.free:=h.elim id fun h=>by
   have:m∈A:=by
    have:=(mN.1 e).1;rw[h.1]at this;exact kq0 this
   exact absurd this h.2
  split<;>exact hm
 ·show m∈lD w.free n;rw[zG9];exact h.elim .inr fun h=>.inl h.1.symm
theorem zh1 {α β:Type} {f:α→WS→β×WS} {P:α→Int→Prop}:∀{l:List α},(∀a∈l,∀w m,(m∈w.free∨P a m)→m∈(f a w).2.free)→∀w m,(m∈w.free∨∃a∈l,P a m)→m∈(aX f l w).2.free
 |[],_,w,m,h=>h.elim id fun⟨a,ha,_⟩=>by cases ha
 |a::l,hf,w,m,h=>by
  show m∈(aX f l (f a w).2).2.free;refine zh1 (fun b hb=>hf b (by simp[hb])) _ m ?_;rcases h with h|⟨b,hb,hp⟩
  ·exact .inl (hf a (by simp) w m (.inl h))
  ·rcases kt6.1 hb with rfl|hb
   ·exact .inl (hf b (by simp) w m (.inr hp))
   ·exact .inr ⟨b,hb,hp⟩
theorem zK {A:List Int}:∀(t:Ty) (w:WS) (m:Int),(m∈w.free∨(bL t m∧m∉A))→m∈(tyF tk sb A t w).2.free:=by
 intro t;induction t using Ty.ind with
 |h k n l ih=>
 intro w m h;have g:∀(l:List Ty),(∀t∈l,∀(w:WS) (m:Int),(m∈w.free∨(bL t m∧m∉A))→m∈(tyF tk sb A t w).2.free)→∀(w:WS) (m:Int),(m∈w.free∨(bL.go l m∧m∉A))→m∈(tyF.go tk sb A l w).2.free:=by
  intro l;induction l with
  |nil=>intro _ w m h;exact h.elim id fun h=>h.1.elim
  |cons t r ih2=>
   intro hi w m h;show m∈(tyF.go tk sb A r (tyF tk sb A t w).2).2.free;refine ih2 (fun t ht=>hi t (by simp[ht])) _ m ?_;rcases h with h|⟨h|h,hA⟩
   ·exact .inl (hi t (by simp) w m (.inl h))
   ·exact .inl (hi t (by simp) w m (.inr ⟨h,hA⟩))
   ·exact .inr ⟨h,hA⟩
 show m∈(tyF.go tk sb A l (if k=gN then (cK tk sb A n w).2 else w)).2.free;refine g l ih _ m ?_;by_cases hk:k=gN
 ·rw[if_pos hk];rcases h with h|⟨⟨_,h⟩|h,hA⟩
  ·exact .inl (z68 (.inl h))
  ·exact .inl (z68 (.inr ⟨h,hA⟩))
  ·exact .inr ⟨h,hA⟩
 ·rw[if_neg hk];rcases h with h|⟨⟨h,_⟩|h,hA⟩
  ·exact .inl h
  ·exact absurd h hk
  ·exact .inr ⟨h,hA⟩
theorem z69 {A:List Int}:∀(l:List Ty) (w:WS) (m:Int),(m∈w.free∨(bL.go l m∧m∉A))→m∈(tyF.go tk sb A l w).2.free
 |[],w,m,h=>h.elim id fun h=>h.1.elim
 |t::r,w,m,h=>by
  show m∈(tyF.go tk sb A r (tyF tk sb A t w).2).2.free;refine z69 r _ m ?_;rcases h with h|⟨h|h,hA⟩
  ·exact .inl (zK t w m (.inl h))
  ·exact .inl (zK t w m (.inr ⟨h,hA⟩))
  ·exact .inr ⟨h,hA⟩
theorem jY6 {A:List Int} (t:Tym) (w:WS) (m:Int) (h:m∈w.free∨(mO t m∧m∉A)):m∈(cR tk sb A t w).2.free:=by
 show m∈(aX (ctF tk sb A) t.cts (tyF tk sb A t.t w).2).2.free;refine zh1 (P:=fun c m=>bL.go c.args m∧m∉A) (fun c _ w m h=>z69 c.args w m h) _ m ?_;rcases h with h|⟨h|⟨c,hc,h⟩,hA⟩
 ·exact .inl (zK t.t w m (.inl h))
 ·exact .inl (zK t.t w m (.inr ⟨h,hA⟩))
 ·exact .inr ⟨c,hc,h,hA⟩
theorem jY7:∀(s:Stx) (A:List Int) (w:WS) (m:Int),(m∈w.free∨(aL s m∧m∉A))→m∈(aS tk sb A s w).2.free:=by
 intro s;induction s using Stx.ind with
 |h ts vs ss fs gs i1 i2 i3=>
 intro A w m h;have gS:∀(l:List (ByteArray×Stx)),(∀x∈l,∀A w m,(m∈w.free∨(aL x.2 m∧m∉A))→m∈(aS tk sb A x.2 w).2.free)→∀w,(m∈w.free∨(aL.goS l m∧m∉A))→m∈(aS.goS tk sb A l w).2.free:=by
  intro l;induction l with
  |nil=>intro _ w h;rw[aS.goS];exact h.elim id fun h=>by simp[aL.goS]at h
  |cons x l ih=>
   obtain⟨s,x⟩:=x;intro hi w h;rw[aS.goS];refine ih (fun y hy=>hi y (by simp[hy])) _ ?_;rcases h with h|⟨h,hA⟩
   ·exact .inl (hi (s,x) (by simp) A w m (.inl h))
   ·rw[aL.goS]at h;rcases h with h|h
    ·exact .inl (hi (s,x) (by simp) A w m (.inr ⟨h,hA⟩))
    ·exact .inr ⟨h,hA⟩
 have gF:∀(l:List (ByteArray×List Int×Stx×List Int×Stx)),(∀x∈l,(∀A w m,(m∈w.free∨(aL x.2.2.1 m∧m∉A))→m∈(aS tk sb A x.2.2.1 w).2.free)∧(∀A w m,(m∈w.free∨(aL x.2.2.2.2 m∧m∉A))→m∈(aS tk sb A x.2.2.2.2 w).2.free))→∀w,(m∈w.free∨(aL.goF l m∧m∉A))→m∈(aS.goF tk sb A l w).2.free:=by
  intro l;induction l with
  |nil=>intro _ w h;rw[aS.goF];exact h.elim id fun h=>by simp[aL.goF]at h
  |cons x l ih=>
   obtain⟨s,p,x,q,y⟩:=x;intro hi w h;rw[aS.goF];have k:=hi (s,p,x,q,y) (by simp);refine ih (fun y hy=>hi y (by simp[hy])) _ ?_;have key:m∈w.free∨(m∉A∧m∉p∧(aL x m∨(m∉q∧aL y m)))→m∈(aS tk sb (A++p++q) y (aQ q.length (aS tk sb (A++p) x (aQ p.length w)).2)).2.free:=by
    rintro(h|⟨hA,hp,h|⟨hq,h⟩⟩)
    ·exact k.2 _ _ m (.inl (k.1 _ _ m (.inl h)))
    ·exact k.2 _ _ m (.inl (k.1 _ _ m (.inr ⟨h,by simp[hA,hp]⟩)))
    ·exact k.2 _ _ m (.inr ⟨h,by simp[hA,hp,hq]⟩)
   rcases h with h|⟨h,hA⟩
   ·exact .inl (key (.inl h))
   ·rw[aL.goF]at h;rcases h with h|h
    ·exact .inl (key (.inr ⟨hA,h⟩))
    ·exact .inr ⟨h,hA⟩
 have gG:∀(l:List (ByteArray×List Int×Stx)),(∀x∈l,∀A w m,(m∈w.free∨(aL x.2.2 m∧m∉A))→m∈(aS tk sb A x.2.2 w).2.free)→∀w,(m∈w.free∨(aL.goG l m∧m∉A))→m∈(aS.goG tk sb A l w).2.free:=by
  intro l;induction l with
  |nil=>intro _ w h;rw[aS.goG];exact h.elim id fun h=>by simp[aL.goG]at h
  |cons x l ih=>
   obtain⟨s,q,y⟩:=x;intro hi w h;rw[aS.goG];have k:=hi (s,q,y) (by simp);refine ih (fun y hy=>hi y (by simp[hy])) _ ?_;rcases h with h|⟨h,hA⟩
   ·exact .inl (k (A++q) (aQ q.length w) m (.inl h))
   ·rw[aL.goG]at h;rcases h with⟨hq,h⟩|h
    ·exact .inl (k (A++q) (aQ q.length w) m (.inr ⟨h,by simp[hA,hq]⟩))
    ·exact .inr ⟨h,hA⟩
 rw[aS];refine gG gs i3 _ ?_;rw[aL]at h;have up:m∈w.free∨(m∉A∧((∃t∈ts,mO t m)∨(∃v∈vs,bL v.s.t m)∨aL.goS ss m∨aL.goF fs m))→m∈(aS.goF tk sb A fs (aS.goS tk sb A ss (aX (dK tk sb A) vs (aX (cR tk sb A) ts w).2).2).2).2.free:=by
  have hT:=zh1 (P:=fun t m=>mO t m∧m∉A) (f:=cR tk sb A) (l:=ts) (fun t _ w m h=>jY6 t w m h) w m;have hV:=zh1 (P:=fun(v:Vam) m=>bL v.s.t m∧m∉A) (f:=dK tk sb A) (l:=vs) (fun v _ w m h=>zK v.s.t w m h) (aX (cR tk sb A) ts w).2 m;rintro(h|⟨hA,⟨t,ht,h⟩|⟨v,hv,h⟩|h|h⟩)
  ·exact gF fs i2 _ (.inl (gS ss i1 _ (.inl (hV (.inl (hT (.inl h)))))))
  ·exact gF fs i2 _ (.inl (gS ss i1 _ (.inl (hV (.inl (hT (.inr ⟨t,ht,h,hA⟩)))))))
  ·exact gF fs i2 _ (.inl (gS ss i1 _ (.inl (hV (.inr ⟨v,hv,h,hA⟩)))))
  ·exact gF fs i2 _ (.inl (gS ss i1 _ (.inr ⟨h,hA⟩)))
  ·exact gF fs i2 _ (.inr ⟨h,hA⟩)
 rcases h with h|⟨h,hA⟩
 ·exact .inl (up (.inl h))
 ·rcases h with h|h|h|h|h
  ·exact .inl (up (.inr ⟨hA,.inl h⟩))
  ·exact .inl (up (.inr ⟨hA,.inr (.inl h)⟩))
  ·exact .inl (up (.inr ⟨hA,.inr (.inr (.inl h))⟩))
  ·exact .inl (up (.inr ⟨hA,.inr (.inr (.inr h))⟩))
  ·exact .inr ⟨h,hA⟩
structure PI (a b:Nat) (p:Nat→Nat→Prop):Prop where
 lt:∀i j,p i j→i<a∧j<b
 fn:∀i j k,p i j→p i k→j=k
 inj:∀i j k,p i k→p j k→i=j
def ext (a b:Nat) (p q:Nat→Nat→Prop) (i j:Nat):Prop:=p i j∨∃u v,i=a+u∧j=b+v∧q u v
theorem PI.ext {a b c d:Nat} {p q:Nat→Nat→Prop} (h:PI a b p) (g:PI c d q):PI (a+c) (b+d) (ext a b p q):=by
 refine⟨?_,?_,?_⟩
 ·rintro i j (e|⟨u,v,rfl,rfl,e⟩)
  ·have:=h.lt i j e;omega
  ·have:=g.lt u v e;omega
 ·rintro i j k (e|⟨u,v,rfl,rfl,e⟩) (e2|⟨u2,v2,h1,rfl,e2⟩)
  ·exact h.fn i j k e e2
  ·have:=h.lt i j e;omega
  ·have:=h.lt _ _ e2;omega
  ·obtain rfl:u=u2:=by omega
   have:=g.fn u v v2 e e2;omega
 ·rintro i j k (e|⟨u,v,rfl,rfl,e⟩) (e2|⟨u2,v2,rfl,h1,e2⟩)
  ·exact h.inj i j k e e2
  ·have:=h.lt _ _ e;omega
  ·have:=h.lt _ _ e2;omega
  ·obtain rfl:v=v2:=by omega
   have:=g.inj u u2 v e e2;omega
def lg (σ:Int→Int) (A B:List Int) (p:Nat→Nat→Prop) (n m:Int):Prop:=
 (∃i j,cC A n=some i∧cC B m=some j∧p i j)∨(cC A n=none∧cC B m=none∧m=σ n)
def fK (σ:Int→Int) (A B:List Int) (p:Nat→Nat→Prop):Ty→Ty→Prop
 |.mk k n l,.mk k' n' l'=>k=k'∧(if k=gN then lg σ A B p n n' else n=n')∧go l l'
 where
 go:List Ty→List Ty→Prop
  |[],l'=>l'=[]
  |t::r,l'=>∃t' r',l'=t'::r'∧fK σ A B p t t'∧go r r'
def zH1 (σ:Int→Int) (A B:List Int) (p:Nat→Nat→Prop) (c c':Ct):Prop:=c.name=c'.name∧fK.go σ A B p c.args c'.args
def sG (σ:Int→Int) (A B:List Int) (p:Nat→Nat→Prop) (m m':Tym):Prop:=m.name=m'.name∧fK σ A B p m.t m'.t∧cX (zH1 σ A B p) m.cts m'.cts
def tY (σ:Int→Int) (A B:List Int) (p:Nat→Nat→Prop) (m m':Vam):Prop:=m.name=m'.name∧m.s.gens=m'.s.gens∧fK σ A B p m.s.t m'.s.t
def bB (σ:Int→Int) (A B:List Int) (p:Nat→Nat→Prop):Stx→Stx→Prop
 |.mk ts vs ss fs gs,.mk ts' vs' ss' fs' gs'=>cX (sG σ A B p) ts ts'∧cX (tY σ A B p) vs vs'∧goS A B p ss ss'∧goF A B p fs fs'∧goG A B p gs gs'
 where
 goS (A B:List Int) (p:Nat→Nat→Prop):List (ByteArray×Stx)→List (ByteArray×Stx)→Prop
  |[],r=>r=[]
  |(s,x)::l,r=>∃x' r',r=(s,x')::r'∧bB σ A B p x x'∧goS A B p l r'
 goF (A B:List Int) (p:Nat→Nat→Prop):List (ByteArray×List Int×Stx×List Int×Stx)→List (ByteArray×List Int×Stx×List Int×Stx)→Prop
  |[],r=>r=[]
  |(s,a,x,b,y)::l,r=>∃a' x' b' y' r' p1 p2,r=(s,a',x',b',y')::r'∧PI a.length a'.length p1∧PI b.length b'.length p2∧bB σ (A++a) (B++a') (ext A.length B.length p p1) x x'∧
    bB σ (A++a++b) (B++a'++b') (ext (A++a).length (B++a').length (ext A.length B.length p p1) p2) y y'∧goF A B p l r'
 goG (A B:List Int) (p:Nat→Nat→Prop):List (ByteArray×List Int×Stx)→List (ByteArray×List Int×Stx)→Prop
  |[],r=>r=[]
  |(s,b,y)::l,r=>∃b' y' r' p2,r=(s,b',y')::r'∧PI b.length b'.length p2∧bB σ (A++b) (B++b') (ext A.length B.length p p2) y y'∧goG A B p l r'
def tZ (σ:Int→Int) (a b:List Int×Stx):Prop:=∃p,PI a.1.length b.1.length p∧bB σ a.1 b.1 p a.2 b.2
def iS:List Int→Prop
 |[]=>True
 |x::l=>(∀y∈l,y<x)∧iS l
theorem z71 {n:Int}:∀{l:List Int},iS l→n∉l→iS (bub n l)
 |[],_,_=>⟨by simp,trivial⟩
 |y::r,⟨h1,h2⟩,hn=>by
  simp only[kt6,not_or]at hn;unfold bub;split
  ·rename_i hlt;refine⟨fun z hz=>?_,z71 h2 hn.2⟩;rcases zG8.1 hz with rfl|hz
   ·exact hlt
   ·exact h1 z hz
  ·rename_i hlt;have:y<n:=by omega
   refine⟨fun z hz=>?_,h1,h2⟩;rcases kt6.1 hz with rfl|hz
   ·exact this
   ·have:=h1 z hz;omega
theorem z73 {l:List Int} {n:Int} (h:iS l.reverse):iS (lD l n).reverse:=by
 unfold lD;split
 ·exact h
 ·rename_i hn;rw[kE7];exact z71 h (by simpa using hn)
theorem zh2:∀{l r:List Int},iS l→iS r→(∀k,k∈l↔k∈r)→l=r
 |[],[],_,_,_=>rfl
 |[],b::r,_,_,h=>by have:=(h b).2 (by simp);cases this
 |a::l,[],_,_,h=>by have:=(h a).1 (by simp);cases this
 |a::l,b::r,⟨h1,h2⟩,⟨g1,g2⟩,h=>by
  have hab:a=b:=by
   have e1:=(h a).1 (by simp);have e2:=(h b).2 (by simp);rcases kt6.1 e1 with e|e
   ·exact e
   ·rcases kt6.1 e2 with f|f
    ·exact f.symm
    ·have:=g1 a e;have:=h1 b f;omega
  subst hab
  congr 1
  refine zh2 h2 g2 fun k=>⟨fun hk=>?_,fun hk=>?_⟩
  ·rcases kt6.1 ((h k).1 (by simp[hk]))with e|e
   ·subst e;have:=h1 k hk;omega
   ·exact e
  ·rcases kt6.1 ((h k).2 (by simp[hk]))with e|e
   ·subst e;have:=g1 k hk;omega
   ·exact e
theorem z74 (l:List Int):∀acc:List Int,iS acc.reverse→iS (l.foldl (fun out k=>if 0≤k then lD out k else out) acc).reverse∧∀k,k∈l.foldl (fun out k=>if 0≤k then lD out k else out) acc↔k∈acc∨(0≤k∧k∈l):=by
 induction l with
 |nil=>intro acc h;exact⟨h,fun k=>by simp⟩
 |cons a l ih=>
  intro acc h;simp only[kE2];split
  ·rename_i ha;obtain⟨g1,g2⟩:=ih _ (z73 (n:=a) h);refine⟨g1,fun k=>?_⟩;rw[g2,zG9];constructor
   ·rintro((rfl|e)|⟨e1,e2⟩)
    ·exact .inr ⟨ha,by simp⟩
    ·exact .inl e
    ·exact .inr ⟨e1,by simp[e2]⟩
   ·rintro(e|⟨e1,e2⟩)
    ·exact .inl (.inr e)
    ·rcases kt6.1 e2 with rfl|e2
     ·exact .inl (.inl rfl)
     ·exact .inr ⟨e1,e2⟩
  ·rename_i ha;obtain⟨g1,g2⟩:=ih _ h;refine⟨g1,fun k=>?_⟩;rw[g2];constructor
   ·rintro(e|⟨e1,e2⟩)
    ·exact .inl e
    ·exact .inr ⟨e1,by simp[e2]⟩
   ·rintro(e|⟨e1,e2⟩)
    ·exact .inl e
    ·rcases kt6.1 e2 with rfl|e2
     ·exact absurd e1 ha
     ·exact .inr ⟨e1,e2⟩
theorem zh3 {l:List Int} {k:Int}:k∈dH l↔0≤k∧k∈l:=by
 have:=(z74 l [] trivial).2 k;simpa[dH]using this
theorem zL (l:List Int):iS (dH l).reverse:=(z74 l [] trivial).1
theorem jY8 {l r:List Int} (h:∀k,0≤k→(k∈l↔k∈r)):dH l=dH r:=by
 have:(dH l).reverse=(dH r).reverse:=zh2 (zL l) (zL r) fun k=>by
  simp only[ky6,zh3];exact⟨fun⟨a,b⟩=>⟨a,(h k a).1 b⟩,fun⟨a,b⟩=>⟨a,(h k a).2 b⟩⟩
 exact List.reverse_inj.1 this
theorem z77:∀{l:List Int},iS l→sF l
 |[],_=>fun i j x hi=>by simp at hi
 |a::l,⟨h1,h2⟩=>by
  intro i j x hi hj;cases i with
  |zero=>
   cases j with
   |zero=>rfl
   |succ j=>
    simp only[kr6,Option.some.injEq]at hi;have:=h1 x (kq0 (by simpa using hj));omega
  |succ i=>
   cases j with
   |zero=>
    simp only[kr6,Option.some.injEq]at hj;have:=h1 x (kq0 (by simpa using hi));omega
   |succ j=>rw[z77 h2 i j x (by simpa using hi) (by simpa using hj)]
theorem jY9 (l:List Int):sF (dH l):=by
 have:=(z77 (zL l)).rev
 rwa [kE7]at this
structure SR (a b:Nat) (p:Nat→Nat→Prop) (w w':WS):Prop where
 la:w.nums.length=a
 lb:w'.nums.length=b
 nx:w.next=w'.next
 fr:w.free=w'.free
 eq:∀i j,p i j→w.nums[i]?=w'.nums[j]?
 l:∀i v,w.nums[i]?=some v→0≤v→∃j,p i j
 r:∀j v,w'.nums[j]?=some v→0≤v→∃i,p i j
def Sim {β:Type} (f g:WS→β×WS) (a b:Nat) (p:Nat→Nat→Prop):Prop:=∀w w',SR a b p w w'→(f w).1=(g w').1∧SR a b p (f w).2 (g w').2
section
variable {tk:List Int} {sb:Int→Int} {A B:List Int} {p:Nat→Nat→Prop}
theorem jZ0 {n m:Int} (hp:PI A.length B.length p) (h:lg id A B p n m):Sim (cK tk sb A n) (cK tk sb B m) A.length B.length p:=by
 intro w w' hs;unfold cK;rcases h with⟨i,j,e1,e2,e3⟩|⟨e1,e2,rfl⟩
 ·rw[e1,e2];have hij:=hp.lt i j e3;have hi:i<w.nums.length:=by rw[hs.la];omega
  have hj:j<w'.nums.length:=by rw[hs.lb];omega
  have e:=hs.eq i j e3;simp only[ku6,e,hs.nx];split
  ·refine⟨rfl,⟨by simp[hs.la],by simp[hs.lb],rfl,hs.fr,fun i' j' h'=>?_,fun i' v hv h0=>?_,fun j' v hv h0=>?_⟩⟩
   ·by_cases hi':i'=i
    ·subst hi';obtain rfl:=hp.fn _ _ _ e3 h';simp only;rw[ky4 hi,ky4 hj]
    ·have hj':j'≠j:=fun g=>hi' (by subst g;exact hp.inj _ _ _ h' e3);simp only;rw[ku5 (Ne.symm hi'),ku5 (Ne.symm hj')];exact hs.eq i' j' h'
   ·by_cases hi':i'=i
    ·subst hi';exact⟨j,e3⟩
    ·simp only at hv;rw[ku5 (Ne.symm hi')]at hv;exact hs.l i' v hv h0
   ·by_cases hj':j'=j
    ·subst hj';exact⟨i,e3⟩
    ·simp only at hv;rw[ku5 (Ne.symm hj')]at hv;exact hs.r j' v hv h0
  ·exact⟨rfl,hs⟩
 ·rw[e1,e2];exact⟨rfl,hs.la,hs.lb,hs.nx,by simp only[id,hs.fr],hs.eq,hs.l,hs.r⟩
theorem zH2 (hp:PI A.length B.length p):∀(t t':Ty),fK id A B p t t'→Sim (tyF tk sb A t) (tyF tk sb B t') A.length B.length p:=by
 intro t;induction t using Ty.ind with
 |h k n l ih=>
 rintro⟨k',n',l'⟩ ⟨rfl,hn,hl⟩ w w' hs;have hg:∀(l:List Ty),(∀t∈l,∀t',fK id A B p t t'→Sim (tyF tk sb A t) (tyF tk sb B t') A.length B.length p)→∀l',fK.go id A B p l l'→Sim (tyF.go tk sb A l) (tyF.go tk sb B l') A.length B.length p:=by
  intro l;induction l with
  |nil=>rintro _ _ h w w' hs;cases h;exact⟨rfl,hs⟩
  |cons t r ih2=>
   rintro hi _ ⟨t',r',rfl,h1,h2⟩ w w' hs;have k1:=hi t (by simp) t' h1 w w' hs;have k2:=ih2 (fun t ht=>hi t (by simp[ht])) r' h2 _ _ k1.2;simp only[tyF.go];exact⟨by rw[k1.1,k2.1],k2.2⟩
 simp only[tyF];by_cases hk:k=gN
 ·rw[if_pos hk]at hn;simp only[hk,if_true];have k1:=jZ0 (tk:=tk) (sb:=sb) hp hn w w' hs;have k2:=hg l ih l' hl _ _ k1.2;exact⟨by rw[k1.1,k2.1],k2.2⟩
 ·rw[if_neg hk]at hn;simp only[hk,if_false];have k2:=hg l ih l' hl _ _ hs;exact⟨by rw[hn,k2.1],k2.2⟩
theorem z78 (hp:PI A.length B.length p):∀(l l':List Ty),fK.go id A B p l l'→Sim (tyF.go tk sb A l) (tyF.go tk sb B l') A.length B.length p
 |[],_,h=>fun w w' hs=>by cases h;exact⟨rfl,hs⟩
 |t::r,_,⟨t',r',rfl,h1,h2⟩=>fun w w' hs=>by
  have k1:=zH2 (tk:=tk) (sb:=sb) hp t t' h1 w w' hs;have k2:=z78 hp r r' h2 _ _ k1.2;simp only[tyF.go];exact⟨by rw[k1.1,k2.1],k2.2⟩
theorem zh4 {α β:Type} {f g:α→WS→β×WS} {R:α→α→Prop} {a b:Nat} (hf:∀x y,R x y→Sim (f x) (g y) a b p):∀(l r:List α),cX R l r→Sim (aX f l) (aX g r) a b p
 |[],[],_=>fun w w' hs=>⟨rfl,hs⟩
 |x::l,y::r,⟨h1,h2⟩=>fun w w' hs=>by
  have k1:=hf x y h1 w w' hs;have k2:=zh4 hf l r h2 _ _ k1.2;simp only[aX];exact⟨by rw[k1.1,k2.1],k2.2⟩
 |[],_::_,h=>h.elim
 |_::_,[],h=>h.elim
theorem jZ1 (hp:PI A.length B.length p) (c c':Ct) (h:zH1 id A B p c c'):Sim (ctF tk sb A c) (ctF tk sb B c') A.length B.length p:=fun w w' hs=>by
 have k1:=z78 (tk:=tk) (sb:=sb) hp _ _ h.2 w w' hs;simp only[ctF];exact⟨by rw[k1.1,h.1],k1.2⟩
theorem jZ2 (hp:PI A.length B.length p) (c c':Tym) (h:sG id A B p c c'):Sim (cR tk sb A c) (cR tk sb B c') A.length B.length p:=fun w w' hs=>by
 have k1:=zH2 (tk:=tk) (sb:=sb) hp _ _ h.2.1 w w' hs;have k2:=zh4 (jZ1 (tk:=tk) (sb:=sb) hp) _ _ h.2.2 _ _ k1.2;simp only[cR];exact⟨by rw[k1.1,k2.1,h.1],k2.2⟩
theorem jZ3 (hp:PI A.length B.length p) (c c':Vam) (h:tY id A B p c c'):Sim (dK tk sb A c) (dK tk sb B c') A.length B.length p:=fun w w' hs=>by
 have k1:=zH2 (tk:=tk) (sb:=sb) hp _ _ h.2.2 w w' hs;simp only[dK];exact⟨by rw[k1.1,h.1,h.2.1],k1.2⟩
end
theorem SR.enter {a b c d:Nat} {p q:Nat→Nat→Prop} {w w':WS} (hp:PI a b p) (hq:PI c d q) (hs:SR a b p w w'):SR (a+c) (b+d) (ext a b p q) (aQ c w) (aQ d w'):=by
 refine⟨by simp[aQ,hs.la],by simp[aQ,hs.lb],hs.nx,hs.fr,?_,?_,?_⟩
 ·rintro i j (e|⟨u,v,rfl,rfl,e⟩)
  ·have:=hp.lt i j e;simp only[aQ];rw[kr9 (by rw[hs.la];omega),kr9 (by rw[hs.lb];omega)];exact hs.eq i j e
  ·have:=hq.lt u v e;simp only[aQ];rw[kr5 (by rw[hs.la];omega),kr5 (by rw[hs.lb];omega),hs.la,hs.lb,kv3,kv3,kF4 (by omega),kF4 (by omega)]
 ·intro i v hv h0;simp only[aQ]at hv;rcases ks3 i w.nums.length with hi|hi
  ·rw[kr9 hi]at hv;obtain⟨j,hj⟩:=hs.l i v hv h0;exact⟨j,.inl hj⟩
  ·rw[kr5 hi,kB1]at hv;split at hv
   ·cases hv;omega
   ·cases hv
 ·intro i v hv h0;simp only[aQ]at hv;rcases ks3 i w'.nums.length with hi|hi
  ·rw[kr9 hi]at hv;obtain⟨j,hj⟩:=hs.r i v hv h0;exact⟨j,.inl hj⟩
  ·rw[kr5 hi,kB1]at hv;split at hv
   ·cases hv;omega
   ·cases hv
theorem SR.leave {a b c d:Nat} {p q:Nat→Nat→Prop} {w w':WS} (hp:PI a b p) (hs:SR (a+c) (b+d) (ext a b p q) w w'):SR a b p (dO a w) (dO b w')∧dH (w.nums.drop a)=dH (w'.nums.drop b):=by
 refine⟨⟨by simp[dO,hs.la],by simp[dO,hs.lb],hs.nx,hs.fr,?_,?_,?_⟩,jY8 fun k h0=>⟨fun hk=>?_,fun hk=>?_⟩⟩
 ·intro i j e;have:=hp.lt i j e;simp only[dO];rw[ks5 (by omega),ks5 (by omega)];exact hs.eq i j (.inl e)
 ·intro i v hv h0;simp only[dO]at hv;rcases ks3 i a with hi|hi
  ·rw[ks5 hi]at hv;obtain⟨j,e|⟨u,v,rfl,rfl,e⟩⟩:=hs.l i v hv h0
   ·exact⟨j,e⟩
   ·omega
  ·rw[kz0 (by simp;omega)]at hv;cases hv
 ·intro i v hv h0;simp only[dO]at hv;rcases ks3 i b with hi|hi
  ·rw[ks5 hi]at hv;obtain⟨j,e|⟨u,v,rfl,rfl,e⟩⟩:=hs.r i v hv h0
   ·exact⟨j,e⟩
   ·omega
  ·rw[kz0 (by simp;omega)]at hv;cases hv
 ·obtain⟨u,hu⟩:=kw9 hk;rw[kv4]at hu;obtain⟨j,e⟩:=hs.l _ k hu h0;have e2:=hs.eq _ _ e;rw[hu]at e2;rcases e with e|⟨u',v,e3,rfl,e⟩
  ·have:=(hp.lt _ _ e).1;omega
  ·refine kq0 (i:=v) ?_;rw[kv4];exact e2.symm
 ·obtain⟨u,hu⟩:=kw9 hk;rw[kv4]at hu;obtain⟨j,e⟩:=hs.r _ k hu h0;have e2:=hs.eq _ _ e;rw[hu]at e2;rcases e with e|⟨u',v,rfl,e3,e⟩
  ·have:=(hp.lt _ _ e).2;omega
  ·refine kq0 (i:=u') ?_;rw[kv4];exact e2
theorem jZ4 (tk:List Int) (sb:Int→Int):∀(s s':Stx) (A B:List Int) (p:Nat→Nat→Prop),PI A.length B.length p→bB id A B p s s'→Sim (aS tk sb A s) (aS tk sb B s') A.length B.length p:=by
 intro s;induction s using Stx.ind with
 |h ts vs ss fs gs i1 i2 i3=>
 rintro⟨ts',vs',ss',fs',gs'⟩ A B p hp hst w w' hs;rw[bB]at hst;obtain⟨h1,h2,h3,h4,h5⟩:=hst;have gS:∀(l:List (ByteArray×Stx)),(∀x∈l,∀s' A B p,PI A.length B.length p→bB id A B p x.2 s'→Sim (aS tk sb A x.2) (aS tk sb B s') A.length B.length p)→∀l',bB.goS id A B p l l'→Sim (aS.goS tk sb A l) (aS.goS tk sb B l') A.length B.length p:=by
  intro l;induction l with
  |nil=>rintro _ _ h w w' hs;rw[bB.goS]at h;cases h;exact⟨rfl,hs⟩
  |cons x r ih=>
   obtain⟨s,x⟩:=x;rintro hi _ hg w w' hs;rw[bB.goS]at hg;obtain⟨x',r',rfl,g1,g2⟩:=hg;have k1:=hi (s,x) (by simp) x' A B p hp g1 w w' hs;have k2:=ih (fun y hy=>hi y (by simp[hy])) r' g2 _ _ k1.2;simp only[aS.goS];exact⟨by rw[k1.1,k2.1],k2.2⟩
 have gF:∀(l:List (ByteArray×List Int×Stx×List Int×Stx)),(∀x∈l,(∀s' A B p,PI A.length B.length p→bB id A B p x.2.2.1 s'→Sim (aS tk sb A x.2.2.1) (aS tk sb B s') A.length B.length p)∧(∀s' A B p,PI A.length B.length p→bB id A B p x.2.2.2.2 s'→Sim (aS tk sb A x.2.2.2.2) (aS tk sb B s') A.length B.length p))→
   ∀l',bB.goF id A B p l l'→Sim (aS.goF tk sb A l) (aS.goF tk sb B l') A.length B.length p:=by
  intro l;induction l with
  |nil=>rintro _ _ h w w' hs;rw[bB.goF]at h;cases h;exact⟨rfl,hs⟩
  |cons x r ih=>
   obtain⟨s,a,x,b,y⟩:=x;rintro hi _ hg w w' hs;rw[bB.goF]at hg;obtain⟨a',x',b',y',r',p1,p2,rfl,hp1,hp2,g1,g2,g3⟩:=hg;have k:=hi (s,a,x,b,y) (by simp);have hpa:PI (A++a).length (B++a').length (ext A.length B.length p p1):=by rw[kq3,kq3];exact hp.ext hp1
   have hpb:PI (A++a++b).length (B++a'++b').length (ext (A++a).length (B++a').length (ext A.length B.length p p1) p2):=by rw[kq3,kq3 («as»:=B++a')];exact hpa.ext hp2
   have s1:=hs.enter hp hp1;rw[←kq3,←kq3]at s1;have k1:=k.1 x' _ _ _ hpa g1 _ _ s1;have s2:=k1.2.enter hpa hp2;rw[←kq3,←kq3]at s2;have k2:=k.2 y' _ _ _ hpb g2 _ _ s2;have s3:=k2.2;rw[kq3 («as»:=A++a),kq3 («as»:=B++a')]at s3;have s4:=s3.leave hpa;have s5:=s4.1;rw[kq3,kq3]at s5;have s6:=s5.leave hp;have s7:=s4.2;rw[kq3,kq3]at s7;have k3:=ih (fun y hy=>hi y (by simp[hy])) r' g3 _ _ s6.1;simp only[aS.goF];exact⟨by rw[k1.1,k2.1,k3.1,s7,s6.2],k3.2⟩
 have gG:∀(l:List (ByteArray×List Int×Stx)),(∀x∈l,∀s' A B p,PI A.length B.length p→bB id A B p x.2.2 s'→Sim (aS tk sb A x.2.2) (aS tk sb B s') A.length B.length p)→∀l',bB.goG id A B p l l'→Sim (aS.goG tk sb A l) (aS.goG tk sb B l') A.length B.length p:=by
  intro l;induction l with
  |nil=>rintro _ _ h w w' hs;rw[bB.goG]at h;cases h;exact⟨rfl,hs⟩
  |cons x r ih=>
   obtain⟨s,b,y⟩:=x;rintro hi _ hg w w' hs;rw[bB.goG]at hg;obtain⟨b',y',r',p2,rfl,hp2,g2,g3⟩:=hg;have hpb:PI (A++b).length (B++b').length (ext A.length B.length p p2):=by rw[kq3,kq3];exact hp.ext hp2
   have s2:=hs.enter hp hp2;rw[←kq3,←kq3]at s2;have k2:=hi (s,b,y) (by simp) y' _ _ _ hpb g2 _ _ s2;have s3:=k2.2;rw[kq3,kq3]at s3;have s4:=s3.leave hp;have k3:=ih (fun y hy=>hi y (by simp[hy])) r' g3 _ _ s4.1;simp only[aS.goG];exact⟨by rw[k2.1,k3.1,s4.2],k3.2⟩
 have k1:=zh4 (jZ2 (tk:=tk) (sb:=sb) hp) _ _ h1 w w' hs;have k2:=zh4 (jZ3 (tk:=tk) (sb:=sb) hp) _ _ h2 _ _ k1.2;have k3:=gS ss i1 _ h3 _ _ k2.2;have k4:=gF fs i2 _ h4 _ _ k3.2;have k5:=gG gs i3 _ h5 _ _ k4.2;simp only[aS];exact⟨by rw[k1.1,k2.1,k3.1,k4.1,k5.1],k5.2⟩
theorem z79:PI 0 0 fun _ _=>False:=⟨fun _ _ h=>h.elim,fun _ _ _ h=>h.elim,fun _ _ _ h=>h.elim⟩
theorem z80 {p:Nat→Nat→Prop}:ext 0 0 (fun _ _=>False) p=p:=by
 funext i j;apply propext;constructor
 ·rintro(h|⟨u,v,rfl,rfl,h⟩)
  ·exact h.elim
  ·simpa using h
 ·intro h;exact .inr ⟨i,j,by omega,by omega,h⟩
theorem z81 {tk:List Int} {sb:Int→Int} {a b:List Int×Stx} (h:tZ id a b) {w:WS} (hw:w.nums=[]):(cL tk sb [] a w).1=(cL tk sb [] b w).1∧(cL tk sb [] a w).2.free=(cL tk sb [] b w).2.free:=by
 obtain⟨p,hp,h⟩:=h;have s0:SR 0 0 (fun _ _=>False) w w:=⟨by simp[hw],by simp[hw],rfl,rfl,fun _ _ h=>h.elim,fun i v hv=>by simp[hw]at hv,fun i v hv=>by simp[hw]at hv⟩;have s1:=s0.enter z79 hp;rw[z80]at s1;simp only[kt2]at s1;have k:=jZ4 tk sb a.2 b.2 a.1 b.1 p hp h _ _ s1;have s2:SR (0+a.1.length) (0+b.1.length) (ext 0 0 (fun _ _=>False) p) (aS tk sb a.1 a.2 (aQ a.1.length w)).2 (aS tk sb b.1 b.2 (aQ b.1.length w)).2:=by
  rw[z80];simpa using k.2
 have s3:=s2.leave z79;simp only[cL,kr2,kr7];exact⟨by rw[k.1,s3.2],s3.1.fr⟩
theorem z82 {a b:List Int×Stx} (h:tZ id a b):bX a=bX b:=by unfold bX;exact(z81 h rfl).2
def qS (σ:Int→Int) (A B:List Int) (p:Nat→Nat→Prop) (a b:ByteArray×Stx):Prop:=a.1=b.1∧bB σ A B p a.2 b.2
def qF (σ:Int→Int) (A B:List Int) (p:Nat→Nat→Prop) (a b:ByteArray×List Int×Stx×List Int×Stx):Prop:=
 a.1=b.1∧∃p1 p2,PI a.2.1.length b.2.1.length p1∧PI a.2.2.2.1.length b.2.2.2.1.length p2∧bB σ (A++a.2.1) (B++b.2.1) (ext A.length B.length p p1) a.2.2.1 b.2.2.1∧
  bB σ (A++a.2.1++a.2.2.2.1) (B++b.2.1++b.2.2.2.1) (ext (A++a.2.1).length (B++b.2.1).length (ext A.length B.length p p1) p2) a.2.2.2.2 b.2.2.2.2
def qG (σ:Int→Int) (A B:List Int) (p:Nat→Nat→Prop) (a b:ByteArray×List Int×Stx):Prop:=
 a.1=b.1∧∃p2,PI a.2.1.length b.2.1.length p2∧bB σ (A++a.2.1) (B++b.2.1) (ext A.length B.length p p2) a.2.2 b.2.2
theorem zH3 {σ:Int→Int} {A B:List Int} {p:Nat→Nat→Prop}:∀{l r:List (ByteArray×Stx)},bB.goS σ A B p l r↔cX (qS σ A B p) l r
 |[],[]=>by rw[bB.goS];simp[cX]
 |[],_::_=>by rw[bB.goS];simp[cX]
 |(s,x)::l,[]=>by rw[bB.goS];simp[cX]
 |(s,x)::l,(s',x')::r=>by
  rw[bB.goS];simp only[cX,←zH3 (l:=l) (r:=r),List.cons.injEq,Prod.mk.injEq,qS];constructor
  ·rintro⟨_,_,⟨⟨rfl,rfl⟩,rfl⟩,h1,h2⟩;exact⟨⟨rfl,h1⟩,h2⟩
  ·rintro⟨⟨rfl,h1⟩,h2⟩;exact⟨_,_,⟨⟨rfl,rfl⟩,rfl⟩,h1,h2⟩
theorem zH4 {σ:Int→Int} {A B:List Int} {p:Nat→Nat→Prop}:∀{l r:List (ByteArray×List Int×Stx×List Int×Stx)},bB.goF σ A B p l r↔cX (qF σ A B p) l r
 |[],[]=>by rw[bB.goF];simp[cX]
 |[],_::_=>by rw[bB.goF];simp[cX]
 |(s,a,x,b,y)::l,[]=>by rw[bB.goF];simp[cX]
 |(s,a,x,b,y)::l,(s',a',x',b',y')::r=>by
  rw[bB.goF];simp only[cX,←zH4 (l:=l) (r:=r),List.cons.injEq,Prod.mk.injEq,qF];constructor
  ·rintro⟨_,_,_,_,_,p1,p2,⟨⟨rfl,rfl,rfl,rfl,rfl⟩,rfl⟩,h1,h2,h3,h4,h5⟩;exact⟨⟨rfl,p1,p2,h1,h2,h3,h4⟩,h5⟩
  ·rintro⟨⟨rfl,p1,p2,h1,h2,h3,h4⟩,h5⟩;exact⟨_,_,_,_,_,p1,p2,⟨⟨rfl,rfl,rfl,rfl,rfl⟩,rfl⟩,h1,h2,h3,h4,h5⟩
theorem zH5 {σ:Int→Int} {A B:List Int} {p:Nat→Nat→Prop}:∀{l r:List (ByteArray×List Int×Stx)},bB.goG σ A B p l r↔cX (qG σ A B p) l r
 |[],[]=>by rw[bB.goG];simp[cX]
 |[],_::_=>by rw[bB.goG];simp[cX]
 |(s,b,y)::l,[]=>by rw[bB.goG];simp[cX]
 |(s,b,y)::l,(s',b',y')::r=>by
  rw[bB.goG];simp only[cX,←zH5 (l:=l) (r:=r),List.cons.injEq,Prod.mk.injEq,qG];constructor
  ·rintro⟨_,_,_,p2,⟨⟨rfl,rfl,rfl⟩,rfl⟩,h1,h3,h5⟩;exact⟨⟨rfl,p2,h1,h3⟩,h5⟩
  ·rintro⟨⟨rfl,p2,h1,h3⟩,h5⟩;exact⟨_,_,_,p2,⟨⟨rfl,rfl,rfl⟩,rfl⟩,h1,h3,h5⟩
theorem jZ5 {σ:Int→Int} (lt:ByteArray→ByteArray→Bool):∀(s s':Stx) (A B:List Int) (p:Nat→Nat→Prop),bB σ A B p s s'→bB σ A B p (bH lt s) (bH lt s'):=by
 intro s;induction s using Stx.ind with
 |h ts vs ss fs gs i1 i2 i3=>
 rintro⟨ts',vs',ss',fs',gs'⟩ A B p hst;rw[bB]at hst;obtain⟨h1,h2,h3,h4,h5⟩:=hst;simp only[bH];rw[bB];refine⟨zJ (fun a b h=>h.1) h1,zJ (fun a b h=>h.1) h2,zH3.2 (zJ (fun a b h=>h.1) ?_),zH4.2 (zJ (fun a b h=>h.1) ?_),zH5.2 (zJ (fun a b h=>h.1) ?_)⟩
 ·rw[sB,sB];exact zg9 (fun a ha b h=>⟨h.1,i1 a ha _ _ _ _ h.2⟩) (zH3.1 h3)
 ·rw[sC,sC];exact zg9 (fun a ha b h=>by obtain⟨e,p1,p2,k1,k2,k3,k4⟩:=h;exact⟨e,p1,p2,k1,k2,(i2 a ha).1 _ _ _ _ k3,(i2 a ha).2 _ _ _ _ k4⟩) (zH4.1 h4)
 ·rw[sD,sD];exact zg9 (fun a ha b h=>by obtain⟨e,p2,k2,k4⟩:=h;exact⟨e,p2,k2,i3 a ha _ _ _ _ k4⟩) (zH5.1 h5)
theorem z83 {lt:ByteArray→ByteArray→Bool} {a b:List Int×Stx} (h:tZ id a b):cG lt a=cG lt b:=by
 unfold cG;rw[z82 h];obtain⟨p,hp,h⟩:=h;exact(z81 (a:=(a.1,bH lt a.2)) (b:=(b.1,bH lt b.2)) ⟨p,hp,jZ5 lt _ _ _ _ _ h⟩ rfl).1
theorem zM:∀(n:Nat) {tk:List Int} {k:Int},tk.length≤n→k≤dG tk k∧dG tk k∉tk:=by
 intro n;induction n with
 |zero=>
  intro tk k h;have:tk=[]:=ku2.1 (by omega);subst this;rw[dG,dif_neg (by simp)];exact⟨kz4 _,by simp⟩
 |succ n ih=>
  intro tk k h;by_cases hk:k∈tk
  ·have hl:(tk.erase k).length≤n:=by
    rw[kA8 hk];have:=ky9 hk;omega
   have g:=ih (k:=k+1) hl;rw[dG,dif_pos hk];refine⟨by omega,fun hc=>g.2 ?_⟩;rw[kB4 (by omega)];exact hc
  ·rw[dG,dif_neg hk];exact⟨kz4 _,hk⟩
def NOk (tk N:List Int):Prop:=(∀(i j:Nat) (k:Int),N[i]?=some k→N[j]?=some k→0≤k→i=j)∧∀k∈N,0≤k→k∉tk
def WOk (tk:List Int) (w:WS):Prop:=NOk tk w.nums∧(∀k∈w.nums,k<w.next)∧0≤w.next
def nM (w:WS) (N:List Int):Prop:=w.nums.length=N.length∧∀(i:Nat) (k:Int),w.nums[i]?=some k→(0≤k→N[i]?=some k)∧(k<0→∃k',N[i]?=some k'∧(k'<0∨w.next≤k'))
def Le (w w':WS):Prop:=nM w w'.nums∧w.next≤w'.next
def BOk (N B:List Int):Prop:=(∀k,k∈B↔0≤k∧k∈N)∧sF B
def pN (N B:List Int) (i j:Nat):Prop:=∃k:Int,0≤k∧N[i]?=some k∧B[j]?=some k
theorem ko2 {w:WS}:nM w w.nums:=⟨rfl,fun i k h=>⟨fun _=>h,fun h0=>⟨k,h,.inl h0⟩⟩⟩
theorem Le.refl {w:WS}:Le w w:=⟨ko2,kz4 _⟩
theorem Le.later {w w':WS} {N:List Int} (h0:0≤w.next) (h:Le w w') (g:nM w' N):nM w N:=by
 refine⟨h.1.1.trans g.1,fun i k hk=>⟨fun hp=>?_,fun hn=>?_⟩⟩
 ·exact(g.2 i k ((h.1.2 i k hk).1 hp)).1 hp
 ·obtain⟨k',hk',hd⟩:=(h.1.2 i k hk).2 hn;rcases kC9 k' 0 with hneg|hpos
  ·obtain⟨k'',e,hd2⟩:=(g.2 i k' hk').2 hneg;exact⟨k'',e,hd2.elim .inl fun h3=>.inr (kz7 h.2 h3)⟩
  ·exact⟨k',(g.2 i k' hk').1 hpos,hd⟩
theorem Le.trans {w w' w'':WS} (h0:0≤w.next) (h:Le w w') (g:Le w' w''):Le w w'':=⟨h.later h0 g.1,kz7 h.2 g.2⟩
theorem WOk.enter {tk:List Int} {w:WS} {c:Nat} (h:WOk tk w):WOk tk (aQ c w):=by
 refine⟨⟨fun i j k hi hj h0=>?_,fun k hk h0=>?_⟩,fun k hk=>?_,h.2.2⟩
 ·have key:∀i:Nat,(w.nums++kw8 c (-1))[i]?=some k→w.nums[i]?=some k:=by
   intro i hi;rcases ks3 i w.nums.length with hl|hl
   ·rwa [kr9 hl]at hi
   ·rw[kr5 hl,kB1]at hi;split at hi
    ·cases hi;omega
    ·cases hi
  exact h.1.1 i j k (key i hi) (key j hj) h0
 ·rcases kt5.1 hk with hk|hk
  ·exact h.1.2 k hk h0
  ·have:=kA9 hk;omega
 ·rcases kt5.1 hk with hk|hk
  ·exact h.2.1 k hk
  ·have:=kA9 hk;have:=h.2.2;simp only[aQ];omega
theorem z84 {l:List Int} {a i:Nat} {k:Int} (h:(l.take a)[i]?=some k):i<a∧l[i]?=some k:=by
 rw[List.getElem?_take]at h;split at h
 ·rename_i hi;exact⟨hi,h⟩
 ·cases h
theorem WOk.leave {tk:List Int} {w:WS} {a:Nat} (h:WOk tk w):WOk tk (dO a w):=by
 refine⟨⟨fun i j k hi hj h0=>h.1.1 i j k (z84 hi).2 (z84 hj).2 h0,fun k hk h0=>h.1.2 k (ky1 hk) h0⟩,fun k hk=>h.2.1 k (ky1 hk),h.2.2⟩
theorem Le.leave {w w':WS} {c a:Nat} (ha:w.nums.length=a) (h:Le (aQ c w) w'):Le w (dO a w'):=by
 have hl:=h.1.1;simp only[aQ,kq3,List.length_replicate]at hl;refine⟨⟨by simp only[dO,kt3];omega,fun i k hk=>?_⟩,h.2⟩;have hi:i<w.nums.length:=(kp9.1 hk).1;have hk2:(aQ c w).nums[i]?=some k:=by
  simp only[aQ];rw[kr9 hi];exact hk
 have g:=h.1.2 i k hk2;simp only[dO];rw[ks5 (by omega)];exact g
theorem jZ6 {tk:List Int} {w:WS} {a:Nat} {N:List Int} (hw:WOk tk w) (h:nM (dO a w) N) (ha:a≤w.nums.length) (hN:NOk tk N):nM w (N++w.nums.drop a)∧NOk tk (N++w.nums.drop a):=by
 have hlen:N.length=a:=by
  have:=h.1;simp only[dO,kt3]at this;omega
 have get:∀i,a≤i→(N++w.nums.drop a)[i]?=w.nums[i]?:=by
  intro i hi;rw[kr5 (by omega),kv4,hlen]
  congr 1
  omega
 have lo:∀i k,i<a→w.nums[i]?=some k→(dO a w).nums[i]?=some k:=by
  intro i k hi hk;simp only[dO];rw[ks5 hi];exact hk
 refine⟨⟨by simp;omega,fun i k hk=>?_⟩,fun i j k hi hj h0=>?_,fun k hk h0=>?_⟩
 ·rcases ks3 i a with hi|hi
  ·have g:=h.2 i k (lo i k hi hk);rw[kr9 (by omega)];exact g
  ·rw[get i hi];exact⟨fun _=>hk,fun hn=>⟨k,hk,.inl hn⟩⟩
 ·have cross:∀i j:Nat,i<a→a≤j→(N++w.nums.drop a)[i]?=some k→(N++w.nums.drop a)[j]?=some k→False:=by
   intro i j hi hj e1 e2;rw[kr9 (by omega)]at e1;rw[get j hj]at e2;have hil:i<w.nums.length:=by omega
   have e3:w.nums[i]?=some w.nums[i]:=kr1 hil;have g:=h.2 i _ (lo i _ hi e3);rcases kC9 w.nums[i] 0 with hn|hp
   ·obtain⟨k',e4,hd⟩:=g.2 hn;rw[e1]at e4;cases e4;rcases hd with hd|hd
    ·omega
    ·have:=hw.2.1 k (kq0 e2);simp only[dO]at hd;omega
   ·have e4:=g.1 hp;rw[e1]at e4;have e5:w.nums[i]=k:=(Option.some.inj e4).symm;rw[e5]at e3;have:=hw.1.1 i j k e3 e2 h0;omega
  rcases ks3 i a with hia|hia<;>rcases ks3 j a with hja|hja
  ·rw[kr9 (by omega)]at hi hj;exact hN.1 i j k hi hj h0
  ·exact(cross i j hia hja hi hj).elim
  ·exact(cross j i hja hia hj hi).elim
  ·rw[get i hia]at hi;rw[get j hja]at hj;exact hw.1.1 i j k hi hj h0
 ·rcases kt5.1 hk with hk|hk
  ·exact hN.2 k hk h0
  ·exact hw.1.2 k (List.mem_of_mem_drop hk) h0
theorem NOk.right {tk N M:List Int} (h:NOk tk (N++M)):NOk tk M:=by
 refine⟨fun i j k hi hj h0=>?_,fun k hk h0=>h.2 k (by simp[hk]) h0⟩;have e:∀i:Nat,(N++M)[N.length+i]?=M[i]?:=fun i=>by rw[kr5 (by omega)];congr 1;omega
 have:=h.1 (N.length+i) (N.length+j) k (by rw[e];exact hi) (by rw[e];exact hj) h0;omega
theorem oH (M:List Int):BOk M (dH M):=⟨fun _=>zh3,jY9 M⟩
theorem NOk.cross {tk N M:List Int} (h:NOk tk (N++M)) {i j:Nat} {k:Int} (hi:N[i]?=some k) (hj:M[j]?=some k) (h0:0≤k):False:=by
 have li:=(kp9.1 hi).1;have:=h.1 i (N.length+j) k (by rw[kr9 li];exact hi) (by rw[kr5 (by omega),kv3];exact hj) h0;omega
theorem BOk.app {tk N M B C:List Int} (h:NOk tk (N++M)) (hb:BOk N B) (hc:BOk M C):BOk (N++M) (B++C):=by
 refine⟨fun k=>?_,fun i j x hi hj=>?_⟩
 ·simp only[kt5,hb.1,hc.1];constructor
  ·rintro(⟨a,b⟩|⟨a,b⟩)
   ·exact⟨a,.inl b⟩
   ·exact⟨a,.inr b⟩
  ·rintro⟨a,b|b⟩
   ·exact .inl ⟨a,b⟩
   ·exact .inr ⟨a,b⟩
 ·have cross:∀i j:Nat,B[i]?=some x→C[j]?=some x→False:=by
   intro i j e1 e2;have m1:=(hb.1 x).1 (kq0 e1);have m2:=(hc.1 x).1 (kq0 e2);obtain⟨u,hu⟩:=kw9 m1.2;obtain⟨v,hv⟩:=kw9 m2.2;exact h.cross hu hv m1.1
  rcases ks3 i B.length with hib|hib<;>rcases ks3 j B.length with hjb|hjb
  ·rw[kr9 hib]at hi;rw[kr9 hjb]at hj;exact hb.2 i j x hi hj
  ·rw[kr9 hib]at hi;rw[kr5 hjb]at hj;exact(cross _ _ hi hj).elim
  ·rw[kr5 hib]at hi;rw[kr9 hjb]at hj;exact(cross _ _ hj hi).elim
  ·rw[kr5 hib]at hi;rw[kr5 hjb]at hj;have:=hc.2 _ _ x hi hj;omega
theorem zN {tk N B:List Int} (h:NOk tk N) (hb:BOk N B):PI N.length B.length (pN N B):=by
 refine⟨?_,?_,?_⟩
 ·rintro i j ⟨k,_,e1,e2⟩;exact⟨(kp9.1 e1).1,(kp9.1 e2).1⟩
 ·rintro i j l ⟨k,_,e1,e2⟩ ⟨k',_,e3,e4⟩;rw[e1]at e3;cases e3;exact hb.2 j l k e2 e4
 ·rintro i j l ⟨k,h0,e1,e2⟩ ⟨k',_,e3,e4⟩;rw[e2]at e4;cases e4;exact h.1 i j k e1 e3 h0
theorem zH6 {tk N M B C:List Int} (h:NOk tk (N++M)) (hb:BOk N B) (hc:BOk M C):ext N.length B.length (pN N B) (pN M C)=pN (N++M) (B++C):=by
 funext i j;apply propext;constructor
 ·rintro(⟨k,h0,e1,e2⟩|⟨u,v,rfl,rfl,k,h0,e1,e2⟩)
  ·exact⟨k,h0,by rw[kr9 (kp9.1 e1).1];exact e1,by rw[kr9 (kp9.1 e2).1];exact e2⟩
  ·exact⟨k,h0,by rw[kr5 (by omega),kv3];exact e1,by rw[kr5 (by omega),kv3];exact e2⟩
 ·rintro⟨k,h0,e1,e2⟩;rcases ks3 i N.length with hi|hi<;>rcases ks3 j B.length with hj|hj
  ·rw[kr9 hi]at e1;rw[kr9 hj]at e2;exact .inl ⟨k,h0,e1,e2⟩
  ·rw[kr9 hi]at e1;rw[kr5 hj]at e2;obtain⟨v,hv⟩:=kw9 ((hc.1 k).1 (kq0 e2)).2;exact(h.cross e1 hv h0).elim
  ·rw[kr5 hi]at e1;rw[kr9 hj]at e2;obtain⟨v,hv⟩:=kw9 ((hb.1 k).1 (kq0 e2)).2;exact(h.cross hv e1 h0).elim
  ·rw[kr5 hi]at e1;rw[kr5 hj]at e2;exact .inr ⟨_,_,by omega,by omega,k,h0,e1,e2⟩
def Out {β:Type} (tk:List Int) (a:Nat) (f:WS→β×WS) (R:List Int→List Int→β→Prop):Prop:=
 ∀w,w.nums.length=a→WOk tk w→Le w (f w).2∧WOk tk (f w).2∧∀N B,nM (f w).2 N→NOk tk N→BOk N B→R N B (f w).1
theorem Le.len {w w':WS} (h:Le w w'):w'.nums.length=w.nums.length:=h.1.1.symm
theorem Out.two {β γ δ:Type} {tk:List Int} {a:Nat} {f:WS→β×WS} {g:WS→γ×WS} {R:List Int→List Int→β→Prop} {Q:List Int→List Int→γ→Prop} (hf:Out tk a f R) (hg:Out tk a g Q) (mk:β→γ→δ) {T:List Int→List Int→δ→Prop}
  (hT:∀N B x y,N.length=a→R N B x→Q N B y→T N B (mk x y)):Out tk a (fun w=>(mk (f w).1 (g (f w).2).1,(g (f w).2).2)) T:=by
 intro w hw hok;obtain⟨h1,h2,h3⟩:=hf w hw hok;obtain⟨g1,g2,g3⟩:=hg (f w).2 (by rw[h1.len,hw]) h2;refine⟨h1.trans hok.2.2 g1,g2,fun N B hl hN hB=>hT N B _ _ ?_ (h3 N B (g1.later h2.2.2 hl) hN hB) (g3 N B hl hN hB)⟩;rw[←hl.1,g1.len,h1.len,hw]
theorem kp1 {β:Type} {tk:List Int} {a:Nat} {x:β} {R:List Int→List Int→β→Prop} (h:∀N B,N.length=a→R N B x):Out tk a (fun w=>(x,w)) R:=fun w hw hok=>⟨Le.refl,hok,fun N B hl _ _=>h N B (by rw[←hl.1,hw])⟩
theorem Out.imp {β:Type} {tk:List Int} {a:Nat} {f:WS→β×WS} {R Q:List Int→List Int→β→Prop} (h:Out tk a f R) (hi:∀N B x,R N B x→Q N B x):Out tk a f Q:=fun w hw hok=>by
 obtain⟨h1,h2,h3⟩:=h w hw hok;exact⟨h1,h2,fun N B a b c=>hi N B _ (h3 N B a b c)⟩
section
variable {tk:List Int} {sb:Int→Int} {A:List Int}
theorem jZ7 {n:Int} (hF:n∉A→sb n∈tk):Out tk A.length (cK tk sb A n) (fun N B m=>lg sb A B (pN N B) n m):=by
 intro w hw hok;unfold cK;cases e:cC A n with
 |none=>
  simp only;refine⟨⟨ko2,kz4 _⟩,hok,fun N B hl hN hB=>.inr ⟨e,?_,rfl⟩⟩;refine iQ.2 fun hc=>?_;have h1:=(hB.1 (sb n)).1 hc;exact hN.2 _ h1.2 h1.1 (hF (iQ.1 e))
 |some i=>
  have hi:i<w.nums.length:=by rw[hw];exact sA e
  have he:w.nums[i]?=some w.nums[i]:=kr1 hi;have hd:w.nums.getD i 0=w.nums[i]:=by rw[ku6,he];rfl
  have fin:∀(N B:List Int) (k:Int),0≤k→N[i]?=some k→BOk N B→lg sb A B (pN N B) n k:=by
   intro N B k h0 hk hB;have hm:k∈B:=(hB.1 k).2 ⟨h0,kq0 hk⟩;cases e2:cC B k with
   |none=>exact absurd hm (iQ.1 e2)
   |some j=>exact .inl ⟨i,j,e,e2,k,h0,hk,(mN.1 e2).1⟩
  simp only[hd];split
  ·rename_i hneg;obtain⟨s1,s2⟩:=zM _ (ks0 _) (tk:=tk) (k:=w.next);have hge:0≤dG tk w.next:=kz7 hok.2.2 s1;refine⟨⟨⟨by simp,fun i' k hk=>?_⟩,by simp only;omega⟩,⟨⟨fun i' j' k h1 h2 h0=>?_,fun k hk h0=>?_⟩,fun k hk=>?_,by simp only;omega⟩,fun N B hl hN hB=>?_⟩
   ·by_cases hi':i'=i
    ·subst hi';rw[he]at hk;cases hk;simp only;rw[ky4 hi];exact⟨fun h=>by omega,fun _=>⟨_,rfl,.inr s1⟩⟩
    ·simp only;rw[ku5 (Ne.symm hi')];exact⟨fun _=>hk,fun h=>⟨k,hk,.inl h⟩⟩
   ·simp only at h1 h2;have old:∀j:Nat,j≠i→(w.nums.set i (dG tk w.next))[j]?=some k→w.nums[j]?=some k∧k<w.next:=by
     intro j hj h;rw[ku5 (Ne.symm hj)]at h;exact⟨h,hok.2.1 k (kq0 h)⟩
    by_cases hi':i'=i<;>by_cases hj':j'=i
    ·omega
    ·subst hi';rw[ky4 hi]at h1;have:=Option.some.inj h1;have:=(old j' hj' h2).2;omega
    ·subst hj';rw[ky4 hi]at h2;have:=Option.some.inj h2;have:=(old i' hi' h1).2;omega
    ·exact hok.1.1 i' j' k (old i' hi' h1).1 (old j' hj' h2).1 h0
   ·rcases kv8 hk with hk|rfl
    ·exact hok.1.2 k hk h0
    ·exact s2
   ·rcases kv8 hk with hk|rfl
    ·have:=hok.2.1 k hk;simp only;omega
    ·simp only;omega
   ·refine fin N B _ hge ?_ hB;have:=hl.2 i (dG tk w.next) (by simp only;rw[ky4 hi]);exact this.1 hge
  ·rename_i hneg;refine⟨Le.refl,hok,fun N B hl hN hB=>fin N B _ (by omega) ((hl.2 i _ he).1 (by omega)) hB⟩
theorem zH7:∀t:Ty,(∀n,bL t n→n∉A→sb n∈tk)→Out tk A.length (tyF tk sb A t) (fun N B t'=>fK sb A B (pN N B) t t'):=by
 intro t;induction t using Ty.ind with
 |h k n l ih=>
 intro hF;have hg:∀(l:List Ty),(∀t∈l,(∀n,bL t n→n∉A→sb n∈tk)→Out tk A.length (tyF tk sb A t) (fun N B t'=>fK sb A B (pN N B) t t'))→(∀n,bL.go l n→n∉A→sb n∈tk)→Out tk A.length (tyF.go tk sb A l) (fun N B l'=>fK.go sb A B (pN N B) l l'):=by
  intro l;induction l with
  |nil=>intro _ _;exact kp1 fun N B _=>rfl
  |cons t r ih2=>
   intro hi hF;exact(hi t (by simp) fun n hn=>hF n (.inl hn)).two (ih2 (fun t ht=>hi t (by simp[ht])) fun n hn=>hF n (.inr hn)) (fun x y=>x::y) fun N B x y _ h1 h2=>⟨x,y,rfl,h1,h2⟩
 have hg2:=hg l ih fun n hn=>hF n (.inr hn);by_cases hk:k=gN
 ·have h1:=(jZ7 (hF n (.inl ⟨hk,rfl⟩))).two hg2 (fun m l=>Ty.mk k m l) (T:=fun N B t'=>fK sb A B (pN N B) (.mk k n l) t') fun N B x y _ h1 h2=>⟨rfl,by rw[if_pos hk];exact h1,h2⟩;have e:tyF tk sb A (.mk k n l)=fun w=>(Ty.mk k (cK tk sb A n w).1 (tyF.go tk sb A l (cK tk sb A n w).2).1,(tyF.go tk sb A l (cK tk sb A n w).2).2):=by
   funext w;simp only[tyF,hk,if_true]
  rw[e];exact h1
 ·have h1:=(kp1 (tk:=tk) (a:=A.length) (x:=n) (R:=fun _ _ m=>m=n) fun _ _ _=>rfl).two hg2 (fun m l=>Ty.mk k m l) (T:=fun N B t'=>fK sb A B (pN N B) (.mk k n l) t') fun N B x y _ h1 h2=>⟨rfl,by rw[if_neg hk];exact h1.symm,h2⟩;have e:tyF tk sb A (.mk k n l)=fun w=>(Ty.mk k n (tyF.go tk sb A l w).1,(tyF.go tk sb A l w).2):=by
   funext w;simp only[tyF,hk,if_false]
  rw[e];exact h1
theorem z85:∀l:List Ty,(∀n,bL.go l n→n∉A→sb n∈tk)→Out tk A.length (tyF.go tk sb A l) (fun N B l'=>fK.go sb A B (pN N B) l l')
 |[],_=>kp1 fun N B _=>rfl
 |t::r,hF=>(zH7 t fun n hn=>hF n (.inl hn)).two (z85 r fun n hn=>hF n (.inr hn)) (fun x y=>x::y) fun N B x y _ h1 h2=>⟨x,y,rfl,h1,h2⟩
theorem zh5 {α:Type} {a:Nat} {f:α→WS→α×WS} {R:List Int→List Int→α→α→Prop}:∀l:List α,(∀x∈l,Out tk a (f x) fun N B y=>R N B x y)→Out tk a (aX f l) fun N B l'=>cX (R N B) l l'
 |[],_=>kp1 fun N B _=>trivial
 |x::l,h=>(h x (by simp)).two (zh5 l fun y hy=>h y (by simp[hy])) (fun x y=>x::y) fun N B x y _ h1 h2=>⟨h1,h2⟩
theorem jZ8 (c:Ct) (hF:∀n,bL.go c.args n→n∉A→sb n∈tk):Out tk A.length (ctF tk sb A c) fun N B c'=>zH1 sb A B (pN N B) c c':=
 (kp1 (tk:=tk) (a:=A.length) (x:=c.name) (R:=fun _ _ m=>c.name=m) fun _ _ _=>rfl).two (z85 c.args hF) (fun s l=>Ct.mk s l) fun N B x y _ h1 h2=>⟨h1,h2⟩
theorem jZ9 (t:Tym) (hF:∀n,mO t n→n∉A→sb n∈tk):Out tk A.length (cR tk sb A t) fun N B t'=>sG sb A B (pN N B) t t':=
 (zH7 t.t fun n hn=>hF n (.inl hn)).two (zh5 t.cts fun c hc=>jZ8 c fun n hn=>hF n (.inr ⟨c,hc,hn⟩)) (fun x l=>Tym.mk t.name x l) fun N B x y _ h1 h2=>⟨rfl,h1,h2⟩
theorem j00 (t:Vam) (hF:∀n,bL t.s.t n→n∉A→sb n∈tk):Out tk A.length (dK tk sb A t) fun N B t'=>tY sb A B (pN N B) t t':=
 (zH7 t.s.t hF).two (kp1 (x:=()) (R:=fun _ _ _=>True) fun _ _ _=>trivial) (fun x _=>Vam.mk t.name ⟨t.s.gens,x⟩) fun N B x y _ h1 h2=>⟨rfl,rfl,h1⟩
end
theorem Out.bind {β:Type} {tk:List Int} {a c:Nat} {f:WS→β×WS} {R:List Int→List Int→β→Prop} (h:Out tk (a+c) f R) {Q:List Int→List Int→(List Int×β)→Prop}
  (hQ:∀N B M x,N.length=a→M.length=c→NOk tk (N++M)→BOk N B→R (N++M) (B++dH M) x→Q N B (dH M,x)) :
  Out tk a (fun w=>((dH ((f (aQ c w)).2.nums.drop a),(f (aQ c w)).1),dO a (f (aQ c w)).2)) Q:=by
 intro w hw hok;have hlen:(aQ c w).nums.length=a+c:=by simp[aQ,hw]
 obtain⟨h1,h2,h3⟩:=h (aQ c w) hlen hok.enter;have hl2:(f (aQ c w)).2.nums.length=a+c:=by rw[h1.len,hlen]
 refine⟨h1.leave hw,h2.leave,fun N B hl hN hB=>?_⟩;obtain⟨k1,k2⟩:=jZ6 h2 hl (by omega) hN;have hNl:N.length=a:=by
  have:=hl.1;simp only[dO,kt3]at this;omega
 refine hQ N B _ _ hNl (by rw[List.length_drop];omega) k2 hB (h3 _ _ k1 k2 ?_);exact hB.app k2 (oH _)
theorem Out.congr {β:Type} {tk:List Int} {a:Nat} {f g:WS→β×WS} {R:List Int→List Int→β→Prop} (h:Out tk a f R) (e:∀w,g w=f w):Out tk a g R:=by
 have:g=f:=funext e;rw[this];exact h
theorem z86 (tk:List Int) (sb:Int→Int):∀(s:Stx) (A:List Int),(∀n,aL s n→n∉A→sb n∈tk)→Out tk A.length (aS tk sb A s) (fun N B s'=>bB sb A B (pN N B) s s'):=by
 intro s;induction s using Stx.ind with
 |h ts vs ss fs gs i1 i2 i3=>
 intro A hF;simp only[aL]at hF;have gS:∀(l:List (ByteArray×Stx)),(∀x∈l,∀(A:List Int),(∀n,aL x.2 n→n∉A→sb n∈tk)→Out tk A.length (aS tk sb A x.2) (fun N B s'=>bB sb A B (pN N B) x.2 s'))→(∀n,aL.goS l n→n∉A→sb n∈tk)→
   Out tk A.length (aS.goS tk sb A l) (fun N B l'=>bB.goS sb A B (pN N B) l l'):=by
  intro l;induction l with
  |nil=>intro _ _;exact kp1 fun N B _=>by rw[bB.goS]
  |cons x r ih=>
   obtain⟨s,x⟩:=x;intro hi hF;have k1:=hi (s,x) (by simp) A fun n hn=>hF n (.inl hn);have k2:=ih (fun y hy=>hi y (by simp[hy])) fun n hn=>hF n (.inr hn);have k:=k1.two k2 (fun a b=>(s,a)::b) (T:=fun N B l'=>bB.goS sb A B (pN N B) ((s,x)::r) l') fun N B y z _ h1 h2=>by
    rw[bB.goS];exact⟨y,z,rfl,h1,h2⟩
   have e:aS.goS tk sb A ((s,x)::r)=fun w=>((s,(aS tk sb A x w).1)::(aS.goS tk sb A r (aS tk sb A x w).2).1,(aS.goS tk sb A r (aS tk sb A x w).2).2):=by
    funext w;simp only[aS.goS]
   rw[e];exact k
 have gG:∀(l:List (ByteArray×List Int×Stx)),(∀x∈l,∀(A:List Int),(∀n,aL x.2.2 n→n∉A→sb n∈tk)→Out tk A.length (aS tk sb A x.2.2) (fun N B s'=>bB sb A B (pN N B) x.2.2 s'))→(∀n,aL.goG l n→n∉A→sb n∈tk)→
   Out tk A.length (aS.goG tk sb A l) (fun N B l'=>bB.goG sb A B (pN N B) l l'):=by
  intro l;induction l with
  |nil=>intro _ _;exact kp1 fun N B _=>by rw[bB.goG]
  |cons x r ih=>
   obtain⟨s,q,y⟩:=x;intro hi hF;have k1:=hi (s,q,y) (by simp) (A++q) fun n hn hA=>hF n (.inl ⟨fun h=>hA (by simp[h]),hn⟩) fun h=>hA (by simp[h]);rw[kq3]at k1;have k1c:=k1.bind (Q:=fun N B z=>∃p2,PI q.length z.1.length p2∧bB sb (A++q) (B++z.1) (ext A.length B.length (pN N B) p2) y z.2) fun N B M x hN hM hn hb h=>by
    refine⟨pN M (dH M),?_,?_⟩
    ·have:=zN hn.right (oH M);rw[hM]at this;exact this
    ·have e:=zH6 hn hb (oH M);rw[hN]at e;rw[e];exact h
   have k2:=ih (fun y hy=>hi y (by simp[hy])) fun n hn=>hF n (.inr hn);have k:=k1c.two k2 (fun a b=>(s,a.1,a.2)::b) (T:=fun N B l'=>bB.goG sb A B (pN N B) ((s,q,y)::r) l') fun N B y z _ h1 h2=>by
    rw[bB.goG];obtain⟨p2,h1,h3⟩:=h1;exact⟨y.1,y.2,z,p2,rfl,h1,h3,h2⟩
   exact k
 have gF:∀(l:List (ByteArray×List Int×Stx×List Int×Stx)),(∀x∈l,(∀(A:List Int),(∀n,aL x.2.2.1 n→n∉A→sb n∈tk)→Out tk A.length (aS tk sb A x.2.2.1) (fun N B s'=>bB sb A B (pN N B) x.2.2.1 s'))∧
    (∀(A:List Int),(∀n,aL x.2.2.2.2 n→n∉A→sb n∈tk)→Out tk A.length (aS tk sb A x.2.2.2.2) (fun N B s'=>bB sb A B (pN N B) x.2.2.2.2 s')))→(∀n,aL.goF l n→n∉A→sb n∈tk)→
   Out tk A.length (aS.goF tk sb A l) (fun N B l'=>bB.goF sb A B (pN N B) l l'):=by
  intro l;induction l with
  |nil=>intro _ _;exact kp1 fun N B _=>by rw[bB.goF]
  |cons x r ih=>
   obtain⟨s,p,x,q,y⟩:=x;intro hi hF;have k:=hi (s,p,x,q,y) (by simp);have kx:=k.1 (A++p) fun n hn hA=>hF n (.inl ⟨fun h=>hA (by simp[h]),.inl hn⟩) fun h=>hA (by simp[h]);have ky:=k.2 (A++p++q) fun n hn hA=>hF n (.inl ⟨fun h=>hA (by simp[h]),.inr ⟨fun h=>hA (by simp[h]),hn⟩⟩) fun h=>hA (by simp[h]);rw[kq3 («as»:=A++p)]at ky;have ky2:=ky.bind (Q:=fun N B z=>∃p2,PI q.length z.1.length p2∧bB sb (A++p++q) (B++z.1) (ext (A++p).length B.length (pN N B) p2) y z.2) fun N B M x hN hM hn hb h=>by
    refine⟨pN M (dH M),?_,?_⟩
    ·have:=zN hn.right (oH M);rw[hM]at this;exact this
    ·have e:=zH6 hn hb (oH M);rw[hN]at e;rw[e];exact h
   have kxy:=kx.two ky2 (fun a b=>(a,b)) (T:=fun N B z=>bB sb (A++p) B (pN N B) x z.1∧∃p2,PI q.length z.2.1.length p2∧bB sb (A++p++q) (B++z.2.1) (ext (A++p).length B.length (pN N B) p2) y z.2.2) fun N B y z _ h1 h2=>⟨h1,h2⟩;rw[kq3]at kxy;have kb:=kxy.bind (Q:=fun N B z=>∃p1 p2,PI p.length z.1.length p1∧PI q.length z.2.2.1.length p2∧bB sb (A++p) (B++z.1) (ext A.length B.length (pN N B) p1) x z.2.1∧
     bB sb (A++p++q) (B++z.1++z.2.2.1) (ext (A++p).length (B++z.1).length (ext A.length B.length (pN N B) p1) p2) y z.2.2.2) fun N B M x hN hM hn hb h=>by
    obtain⟨h1,p2,h2,h3⟩:=h;have e:=zH6 hn hb (oH M);rw[hN]at e;refine⟨pN M (dH M),p2,?_,h2,?_,?_⟩
    ·have:=zN hn.right (oH M);rw[hM]at this;exact this
    ·rw[e];exact h1
    ·rw[e,kq3 («as»:=A)];exact h3
   have k2:=ih (fun y hy=>hi y (by simp[hy])) fun n hn=>hF n (.inr hn);have kk:=kb.two k2 (fun a b=>(s,a.1,a.2.1,a.2.2.1,a.2.2.2)::b) (T:=fun N B l'=>bB.goF sb A B (pN N B) ((s,p,x,q,y)::r) l') fun N B z u _ h1 h2=>by
    rw[bB.goF];obtain⟨p1,p2,g1,g2,g3,g4⟩:=h1;exact⟨z.1,z.2.1,z.2.2.1,z.2.2.2,u,p1,p2,rfl,g1,g2,g3,g4,h2⟩
   refine kk.congr fun w=>?_;simp only[aS.goF,kq3]
 have k1:=zh5 (tk:=tk) (a:=A.length) (R:=fun N B x y=>sG sb A B (pN N B) x y) (f:=cR tk sb A) ts fun t ht=>jZ9 t fun n hn=>hF n (.inl ⟨t,ht,hn⟩);have k2:=zh5 (tk:=tk) (a:=A.length) (R:=fun N B x y=>tY sb A B (pN N B) x y) (f:=dK tk sb A) vs fun t ht=>j00 t fun n hn=>hF n (.inr (.inl ⟨t,ht,hn⟩));have k3:=gS ss i1 fun n hn=>hF n (.inr (.inr (.inl hn)));have k4:=gF fs i2 fun n hn=>hF n (.inr (.inr (.inr (.inl hn))));have k5:=gG gs i3 fun n hn=>hF n (.inr (.inr (.inr (.inr hn))));have k12:=k1.two k2 (fun a b=>(a,b)) (T:=fun N B z=>cX (sG sb A B (pN N B)) ts z.1∧cX (tY sb A B (pN N B)) vs z.2) fun N B y z _ h1 h2=>⟨h1,h2⟩;have k34:=k12.two k3 (fun a b=>(a,b)) (T:=fun N B z=>(cX (sG sb A B (pN N B)) ts z.1.1∧cX (tY sb A B (pN N B)) vs z.1.2)∧bB.goS sb A B (pN N B) ss z.2) fun N B y z _ h1 h2=>⟨h1,h2⟩;have k45:=k34.two k4 (fun a b=>(a,b)) (T:=fun N B z=>((cX (sG sb A B (pN N B)) ts z.1.1.1∧cX (tY sb A B (pN N B)) vs z.1.1.2)∧bB.goS sb A B (pN N B) ss z.1.2)∧bB.goF sb A B (pN N B) fs z.2) fun N B y z _ h1 h2=>⟨h1,h2⟩;have k:=k45.two k5 (fun a b=>Stx.mk a.1.1.1 a.1.1.2 a.1.2 a.2 b) (T:=fun N B s'=>bB sb A B (pN N B) (.mk ts vs ss fs gs) s') fun N B y z _ h1 h2=>by
  rw[bB];exact⟨h1.1.1.1,h1.1.1.2,h1.1.2,h1.2,h2⟩
 refine k.congr fun w=>?_;simp only[aS]
theorem j01 {tk:List Int} {sb:Int→Int} (a:List Int×Stx) (hF:∀n,aL a.2 n→n∉a.1→sb n∈tk):tZ sb a (cL tk sb [] a w0).1:=by
 have k:=z86 tk sb a.2 a.1 hF;have hok:WOk tk w0:=⟨⟨fun i j k h=>by simp[w0]at h,fun k h=>by simp[w0]at h⟩,fun k h=>by simp[w0]at h,kz4 _⟩;obtain⟨h1,h2,h3⟩:=k (aQ a.1.length w0) (by simp[aQ,w0]) hok.enter;have h4:=h3 _ _ ko2 h2.1 (oH _);have hl:(aS tk sb a.1 a.2 (aQ a.1.length w0)).2.nums.length=a.1.length:=by rw[h1.len];simp[aQ,w0]
 refine⟨pN ((aS tk sb a.1 a.2 (aQ a.1.length w0)).2.nums) (dH ((aS tk sb a.1 a.2 (aQ a.1.length w0)).2.nums)),?_,?_⟩
 ·have:=zN h2.1 (oH _);rw[hl]at this;simp only[cL,kr2,kr7,kw7];exact this
 ·simp only[cL,kr2,kr7,kw7];exact h4
def idp (n i j:Nat):Prop:=i=j∧i<n
theorem zh6 (n:Nat):PI n n (idp n):=⟨fun i j h=>⟨h.2,h.1▸h.2⟩,fun i j k h g=>h.1.symm.trans g.1,fun i j k h g=>h.1.trans g.1.symm⟩
theorem zH8 {a c:Nat}:ext a a (idp a) (idp c)=idp (a+c):=by
 funext i j;apply propext;constructor
 ·rintro(⟨rfl,h⟩|⟨u,v,rfl,rfl,rfl,h⟩)
  ·exact⟨rfl,by omega⟩
  ·exact⟨rfl,by omega⟩
 ·rintro⟨rfl,h⟩;rcases ks3 i a with h1|h1
  ·exact .inl ⟨rfl,h1⟩
  ·exact .inr ⟨i-a,i-a,by omega,by omega,rfl,by omega⟩
def G2 (A0 B0 A B:List Int) (F:Int→Prop):Prop:=∀n,F n→lg (im A0 B0) A B (idp A.length) n (im (A0++A) (B0++B) n)
theorem zH9 {A B own out:List Int} {n:Int} (hAB:A.length=B.length) (hn:n∉own):im (A++own) (B++out) n=im A B n:=by
 unfold im;rw[eR,iQ.2 hn];simp only;cases e3:cC A n with
 |none=>rfl
 |some i=>
  have:=sA e3;simp only[ku6];rw[kr9 (by omega)]
theorem G2.bind {A0 B0 A B own out:List Int} {F:Int→Prop} (h0:A0.length=B0.length) (hAB:A.length=B.length) (hb:eJ (A0++A) (B0++B) own out F) (hG:G2 A0 B0 A B fun n=>F n∧n∉own):G2 A0 B0 (A++own) (B++out) F:=by
 obtain⟨hlen,h1,h2⟩:=hb;intro n hn;have hl:(A0++A).length=(B0++B).length:=by simp[h0,hAB]
 rw[←kr3,←kr3];by_cases hm:n∈own
 ·cases e:cC own n with
  |none=>exact absurd hm (iQ.1 e)
  |some j=>
   have hj:=mN.1 e;have hjl:=sA e;obtain⟨u,hu⟩:∃u,out[j]?=some u:=⟨out[j]'(by omega),kr1 (by omega)⟩;have him:im (A0++A++own) (B0++B++out) n=u:=by
    unfold im;rw[eR,e];simp only[ku6];rw[hl,kr5 (by omega),kv3,hu];rfl
   rw[him];have hout:cC out u=some j:=by
    refine mN.2 ⟨hu,fun k hk hc=>?_⟩;have hkl:k<own.length:=by
     have:=(kp9.1 hc).1;omega
    obtain⟨y,hy⟩:∃y,own[k]?=some y:=⟨own[k],kr1 hkl⟩;have hne:n≠y:=fun g=>hj.2 k hk (by rw[hy,g]);exact h2 j k n y u u hk hj.1 hy hne hu hc rfl
   exact .inl ⟨A.length+j,B.length+j,by rw[eR,e],by rw[eR,hout],by omega,by simp;omega⟩
 ·have e:=iQ.2 hm;have g:=hG n ⟨hn,hm⟩;have hc:=h1 n hn hm;have e2:=iQ.2 hc;rw[zH9 hl hm];rcases g with⟨i,j,g1,g2,g3⟩|⟨g1,g2,g3⟩
  ·refine .inl ⟨i,j,by rw[eR,e];exact g1,by rw[eR,e2];exact g2,g3.1,?_⟩;have:=g3.2;simp;omega
  ·exact .inr ⟨by rw[eR,e];exact g1,by rw[eR,e2];exact g2,g3⟩
theorem zI0 {A0 B0 A B:List Int}:∀(t:Ty),G2 A0 B0 A B (bL t)→fK (im A0 B0) A B (idp A.length) t (cI (A0++A) (B0++B) t):=by
 intro t;induction t using Ty.ind with
 |h k n l ih=>
 intro hG;have hg:∀l:List Ty,(∀t∈l,G2 A0 B0 A B (bL t)→fK (im A0 B0) A B (idp A.length) t (cI (A0++A) (B0++B) t))→G2 A0 B0 A B (bL.go l)→fK.go (im A0 B0) A B (idp A.length) l (cI.go (A0++A) (B0++B) l):=by
  intro l;induction l with
  |nil=>intro _ _;rfl
  |cons t r ih2=>
   intro hi hG;exact⟨_,_,rfl,hi t (by simp) fun n hn=>hG n (.inl hn),ih2 (fun t ht=>hi t (by simp[ht])) fun n hn=>hG n (.inr hn)⟩
 refine⟨rfl,?_,hg l ih fun n hn=>hG n (.inr hn)⟩;by_cases hk:k=gN
 ·rw[if_pos hk,if_pos hk];exact hG n (.inl ⟨hk,rfl⟩)
 ·rw[if_neg hk,if_neg hk]
theorem z87 {A0 B0 A B:List Int}:∀l:List Ty,G2 A0 B0 A B (bL.go l)→fK.go (im A0 B0) A B (idp A.length) l (cI.go (A0++A) (B0++B) l)
 |[],_=>rfl
 |t::r,hG=>⟨_,_,rfl,zI0 t fun n hn=>hG n (.inl hn),z87 r fun n hn=>hG n (.inr hn)⟩
theorem j02 (A0 B0:List Int) (h0:A0.length=B0.length):∀(s s':Stx) (A B:List Int),A.length=B.length→G2 A0 B0 A B (aL s)→aW (A0++A) (B0++B) s s'→bB (im A0 B0) A B (idp A.length) s s':=by
 intro s;induction s using Stx.ind with
 |h ts vs ss fs gs i1 i2 i3=>
 rintro⟨ts',vs',ss',fs',gs'⟩ A B hAB hG hst;rw[aW]at hst;obtain⟨rfl,rfl,h3,h4,h5⟩:=hst;simp only[aL]at hG;rw[bB];refine⟨zh0 fun t ht=>⟨rfl,zI0 _ fun n hn=>hG n (.inl ⟨t,ht,.inl hn⟩),zh0 fun c hc=>⟨rfl,z87 _ fun n hn=>hG n (.inl ⟨t,ht,.inr ⟨c,hc,hn⟩⟩)⟩⟩,
  zh0 fun v hv=>⟨rfl,rfl,zI0 _ fun n hn=>hG n (.inr (.inl ⟨v,hv,hn⟩))⟩,?_,?_,?_⟩
 ·have g:∀(l r:List (ByteArray×Stx)),(∀x∈l,∀s' A B,A.length=B.length→G2 A0 B0 A B (aL x.2)→aW (A0++A) (B0++B) x.2 s'→bB (im A0 B0) A B (idp A.length) x.2 s')→G2 A0 B0 A B (aL.goS l)→aW.goS (A0++A) (B0++B) l r→bB.goS (im A0 B0) A B (idp A.length) l r:=by
   intro l;induction l with
   |nil=>intro r _ _ h;rw[aW.goS]at h;rw[bB.goS];exact h
   |cons x l ih=>
    obtain⟨s,x⟩:=x;intro r hi hG h;rw[aW.goS]at h;obtain⟨x',r',rfl,k1,k2⟩:=h;rw[bB.goS];exact⟨x',r',rfl,hi (s,x) (by simp) x' A B hAB (fun n hn=>hG n (.inl hn)) k1,ih r' (fun y hy=>hi y (by simp[hy])) (fun n hn=>hG n (.inr hn)) k2⟩
  exact g ss ss' i1 (fun n hn=>hG n (.inr (.inr (.inl hn)))) h3
 ·have g:∀(l r:List (ByteArray×List Int×Stx×List Int×Stx)),(∀x∈l,(∀s' A B,A.length=B.length→G2 A0 B0 A B (aL x.2.2.1)→aW (A0++A) (B0++B) x.2.2.1 s'→bB (im A0 B0) A B (idp A.length) x.2.2.1 s')∧
    (∀s' A B,A.length=B.length→G2 A0 B0 A B (aL x.2.2.2.2)→aW (A0++A) (B0++B) x.2.2.2.2 s'→bB (im A0 B0) A B (idp A.length) x.2.2.2.2 s'))→G2 A0 B0 A B (aL.goF l)→aW.goF (A0++A) (B0++B) l r→bB.goF (im A0 B0) A B (idp A.length) l r:=by
   intro l;induction l with
   |nil=>intro r _ _ h;rw[aW.goF]at h;rw[bB.goF];exact h
   |cons x l ih=>
    obtain⟨s,p,x,q,y⟩:=x;intro r hi hG h;rw[aW.goF]at h;obtain⟨p',x',q',y',r',rfl,b1,k1,b2,k2,k3⟩:=h;have k:=hi (s,p,x,q,y) (by simp);have g1:=G2.bind h0 hAB b1 fun n hn=>hG n (.inl ⟨hn.2,hn.1⟩);have hAB2:(A++p).length=(B++p').length:=by simp[hAB,b1.1]
    rw[kr3,kr3]at b2 k1;have g2:=G2.bind h0 hAB2 b2 fun n hn=>g1 n (.inr ⟨hn.2,hn.1⟩);rw[kr3 A0,kr3 B0,kr3 A0,kr3 B0]at k2;rw[bB.goF];have e1:ext A.length B.length (idp A.length) (idp p.length)=idp (A++p).length:=by rw[←hAB,zH8,kq3]
    have e2:ext (A++p).length (B++p').length (idp (A++p).length) (idp q.length)=idp (A++p++q).length:=by rw[←hAB2,zH8,←kq3]
    refine⟨p',x',q',y',r',idp p.length,idp q.length,rfl,?_,?_,?_,?_,ih r' (fun y hy=>hi y (by simp[hy])) (fun n hn=>hG n (.inr hn)) k3⟩
    ·rw[b1.1];exact zh6 _
    ·rw[b2.1];exact zh6 _
    ·rw[e1];exact k.1 x' _ _ hAB2 (fun n hn=>g1 n (.inl hn)) k1
    ·rw[e1,e2];exact k.2 y' _ _ (by simp[hAB,b1.1,b2.1]) g2 k2
  exact g fs fs' i2 (fun n hn=>hG n (.inr (.inr (.inr (.inl hn))))) h4
 ·have g:∀(l r:List (ByteArray×List Int×Stx)),(∀x∈l,∀s' A B,A.length=B.length→G2 A0 B0 A B (aL x.2.2)→aW (A0++A) (B0++B) x.2.2 s'→bB (im A0 B0) A B (idp A.length) x.2.2 s')→G2 A0 B0 A B (aL.goG l)→aW.goG (A0++A) (B0++B) l r→bB.goG (im A0 B0) A B (idp A.length) l r:=by
   intro l;induction l with
   |nil=>intro r _ _ h;rw[aW.goG]at h;rw[bB.goG];exact h
   |cons x l ih=>
    obtain⟨s,q,y⟩:=x;intro r hi hG h;rw[aW.goG]at h;obtain⟨q',y',r',rfl,b2,k2,k3⟩:=h;have g2:=G2.bind h0 hAB b2 fun n hn=>hG n (.inl ⟨hn.2,hn.1⟩);rw[kr3,kr3]at k2;rw[bB.goG];have e1:ext A.length B.length (idp A.length) (idp q.length)=idp (A++q).length:=by rw[←hAB,zH8,kq3]
    refine⟨q',y',r',idp q.length,rfl,?_,?_,ih r' (fun y hy=>hi y (by simp[hy])) (fun n hn=>hG n (.inr hn)) k3⟩
    ·rw[b2.1];exact zh6 _
    ·rw[e1];exact hi (s,q,y) (by simp) y' _ _ (by simp[hAB,b2.1]) g2 k2
  exact g gs gs' i3 (fun n hn=>hG n (.inr (.inr (.inr (.inr hn))))) h5
theorem j03 {A0 B0 q q':List Int} {y y':Stx} (h0:A0.length=B0.length) (hb:eJ A0 B0 q q' (aL y)) (hr:aW (A0++q) (B0++q') y y'):tZ (im A0 B0) (q,y) (q',y'):=by
 have g0:G2 A0 B0 [] [] fun n=>aL y n∧n∉q:=fun n _=>.inr ⟨rfl,rfl,by rw[ku3,ku3]⟩;have hb2:eJ (A0++[]) (B0++[]) q q' (aL y):=by rw[ku3,ku3];exact hb
 have g:=G2.bind h0 rfl hb2 g0;refine⟨idp q.length,?_,j02 A0 B0 h0 y y' q q' hb.1.symm ?_ hr⟩
 ·show PI q.length q'.length _;rw[hb.1];exact zh6 _
 ·simpa using g
theorem z88 {q:List Int} {s:Stx} {m:Int} (h:aL s m) (hq:m∉q):m∈bX (q,s):=by
 unfold bX cL;exact jY7 s _ _ m (.inr ⟨h,by simpa using hq⟩)
theorem zI1 {α:Type} {lt:ByteArray→ByteArray→Bool} {nm:α→ByteArray} {x a:α}:∀{l:List α},a∈fA lt nm x l↔a=x∨a∈l
 |[]=>by simp[fA]
 |y::r=>by
  unfold fA;split
  ·simp only[kt6,zI1 (l:=r)];constructor
   ·rintro(h|h|h)<;>simp[h]
   ·rintro(h|h|h)<;>simp[h]
  ·simp only[kt6]
theorem j04 {α:Type} {lt:ByteArray→ByteArray→Bool} {nm:α→ByteArray} {a:α} {l:List α}:a∈dV lt nm l↔a∈l:=by
 have:∀(l p:List α),a∈l.foldl (fun acc x=>fA lt nm x acc) p↔a∈p∨a∈l:=by
  intro l;induction l with
  |nil=>intro p;simp
  |cons x l ih=>
   intro p;simp only[kE2,ih,zI1,kt6];constructor
   ·rintro((h|h)|h)<;>simp[h]
   ·rintro(h|h|h)<;>simp[h]
 unfold dV;rw[ky6,this];simp
theorem uA {m:Int}:∀{l:List (ByteArray×Stx)},aL.goS l m↔∃x∈l,aL x.2 m
 |[]=>by simp[aL.goS]
 |(s,x)::r=>by simp[aL.goS,uA (l:=r)]
theorem uB {m:Int}:∀{l:List (ByteArray×List Int×Stx×List Int×Stx)},aL.goF l m↔∃x∈l,m∉x.2.1∧(aL x.2.2.1 m∨(m∉x.2.2.2.1∧aL x.2.2.2.2 m))
 |[]=>by simp[aL.goF]
 |(s,p,x,q,y)::r=>by
  simp only[aL.goF,uB (l:=r),kt6];constructor
  ·rintro(h|⟨z,hz,h⟩)
   ·exact⟨_,.inl rfl,h⟩
   ·exact⟨z,.inr hz,h⟩
  ·rintro⟨z,rfl|hz,h⟩
   ·exact .inl h
   ·exact .inr ⟨z,hz,h⟩
theorem uC {m:Int}:∀{l:List (ByteArray×List Int×Stx)},aL.goG l m↔∃x∈l,m∉x.2.1∧aL x.2.2 m
 |[]=>by simp[aL.goG]
 |(s,q,y)::r=>by
  simp only[aL.goG,uC (l:=r),kt6];constructor
  ·rintro(h|⟨z,hz,h⟩)
   ·exact⟨_,.inl rfl,h⟩
   ·exact⟨z,.inr hz,h⟩
  ·rintro⟨z,rfl|hz,h⟩
   ·exact .inl h
   ·exact .inr ⟨z,hz,h⟩
theorem zI2 (lt:ByteArray→ByteArray→Bool) (m:Int):∀s:Stx,aL (bH lt s) m↔aL s m:=by
 intro s;induction s using Stx.ind with
 |h ts vs ss fs gs i1 i2 i3=>
 simp only[bH,aL,j04,uA,uB,uC,sB,sC,sD];refine or_congr Iff.rfl (or_congr Iff.rfl (or_congr ⟨?_,?_⟩ (or_congr ⟨?_,?_⟩ ⟨?_,?_⟩)))
 ·rintro⟨x,hx,h⟩;obtain⟨y,hy,rfl⟩:=ky3.1 hx;exact⟨y,hy,(i1 y hy).1 h⟩
 ·rintro⟨y,hy,h⟩;exact⟨_,ky3.2 ⟨y,hy,rfl⟩,(i1 y hy).2 h⟩
 ·rintro⟨x,hx,h1,h⟩;obtain⟨y,hy,rfl⟩:=ky3.1 hx;exact⟨y,hy,h1,h.imp ((i2 y hy).1).1 fun g=>⟨g.1,((i2 y hy).2).1 g.2⟩⟩
 ·rintro⟨y,hy,h1,h⟩;exact⟨_,ky3.2 ⟨y,hy,rfl⟩,h1,h.imp ((i2 y hy).1).2 fun g=>⟨g.1,((i2 y hy).2).2 g.2⟩⟩
 ·rintro⟨x,hx,h1,h⟩;obtain⟨y,hy,rfl⟩:=ky3.1 hx;exact⟨y,hy,h1,(i3 y hy).1 h⟩
 ·rintro⟨y,hy,h1,h⟩;exact⟨_,ky3.2 ⟨y,hy,rfl⟩,h1,(i3 y hy).2 h⟩
theorem z89 (lt:ByteArray→ByteArray→Bool) (a:List Int×Stx):tZ id (a.1,bH lt a.2) (cG lt a):=by
 unfold cG;exact j01 (a.1,bH lt a.2) fun n hn hq=>z88 ((zI2 lt n a.2).1 hn) hq
structure eK (lt:ByteArray→ByteArray→Bool):Prop where
 irr:∀a,lt a a=false
 trans:∀a b c,lt a b=true→lt b c=true→lt a c=true
 tri:∀a b,lt a b=false→lt b a=false→a=b
theorem eK.asym {lt:ByteArray→ByteArray→Bool} (h:eK lt) {a b:ByteArray} (hab:lt a b=true):lt b a=false:=by
 cases e:lt b a with
 |false=>rfl
 |true=>have:=h.trans a b a hab e;rw[h.irr]at this;cases this
section
variable {α:Type} {lt:ByteArray→ByteArray→Bool} {ky:α→ByteArray}
def Lq (lt:ByteArray→ByteArray→Bool) (ky:α→ByteArray) (x y:α):Prop:=lt (ky y) (ky x)=false
def Srd (lt:ByteArray→ByteArray→Bool) (ky:α→ByteArray) (l:List α):Prop:=List.Pairwise (Lq lt ky) l
def Fil (ky:α→ByteArray) (l r:List α):Prop:=∀s,l.filter (fun x=>decide (ky x=s))=r.filter (fun x=>decide (ky x=s))
theorem Lq.trans (h:eK lt) {x y z:α} (h1:Lq lt ky x y) (h2:Lq lt ky y z):Lq lt ky x z:=by
 unfold Lq at *;cases e:lt (ky z) (ky x)with
 |false=>rfl
 |true=>
  cases e2:lt (ky x) (ky y)with
  |true=>have:=h.trans _ _ _ e e2;rw[h2]at this;cases this
  |false=>have:=h.tri _ _ h1 e2;rw[this]at h2;rw[h2]at e;cases e
theorem Lq.of_lt (h:eK lt) {x y:α} (h1:lt (ky x) (ky y)=true):Lq lt ky x y:=h.asym h1
theorem z90 (h:eK lt) {x y:α} (h1:lt (ky x) (ky y)=true):ky x≠ky y:=fun e=>by rw[e,h.irr]at h1;cases h1
theorem kn8 {l:List α}:Fil ky l l:=fun _=>rfl
theorem Fil.trans {l r q:List α} (h:Fil ky l r) (g:Fil ky r q):Fil ky l q:=fun s=>(h s).trans (g s)
theorem Fil.symm {l r:List α} (h:Fil ky l r):Fil ky r l:=fun s=>(h s).symm
theorem Fil.app {a b c d:List α} (h:Fil ky a b) (g:Fil ky c d):Fil ky (a++c) (b++d):=fun s=>by rw[kA4,kA4,h s,g s]
theorem Fil.swap {X Y:List α} (h:∀x∈X,∀y∈Y,ky x≠ky y):Fil ky (X++Y) (Y++X):=fun s=>by
 rw[kA4,kA4];by_cases hx:∃x∈X,ky x=s
 ·obtain⟨x,hx,rfl⟩:=hx;have:Y.filter (fun y=>decide (ky y=ky x))=[]:=kD0.2 fun y hy=>by simpa using fun e=>h x hx y hy e.symm
  rw[this,ku3,kr2]
 ·have:X.filter (fun x=>decide (ky x=s))=[]:=kD0.2 fun x hx'=>by simpa using fun e=>hx ⟨x,hx',e⟩
  rw[this,ku3,kr2]
theorem Fil.mem {l r:List α} (h:Fil ky l r) {x:α} (hx:x∈l):x∈r:=by
 have:x∈l.filter (fun y=>decide (ky y=ky x)):=kG9.2 ⟨hx,by simp⟩;rw[h]at this;exact(kG9.1 this).1
theorem Fil.len {l r:List α} (h:Fil ky l r):l.length=r.length:=by
 induction l generalizing r with
 |nil=>
  cases r with
  |nil=>rfl
  |cons y r=>have:=h.symm.mem (x:=y) (by simp);cases this
 |cons x l ih=>
  have hx:=h.mem (x:=x) (by simp);obtain⟨p,q,rfl⟩:=List.append_of_mem hx;have e:=h (ky x);rw[kw4 (by simp),kA4,kw4 (by simp)]at e;have key:∃p' q',p++x::q=p'++x::q'∧∀y∈p',ky y≠ky x:=by
   cases hp:p.filter (fun y=>decide (ky y=ky x))with
   |nil=>exact⟨p,q,rfl,fun y hy hc=>by have:=kD0.1 hp y hy;simp[hc]at this⟩
   |cons z t=>
    rw[hp]at e;have hz:x=z:=(List.cons.inj e).1;subst hz;have:∀p:List α,p.filter (fun y=>decide (ky y=ky x))=x::t→∃p' q',p=p'++x::q'∧∀y∈p',ky y≠ky x:=by
     intro p;induction p with
     |nil=>intro h;cases h
     |cons y p ihp=>
      intro h;by_cases hy:ky y=ky x
      ·rw[kw4 (by simpa using hy)]at h;have:=(List.cons.inj h).1;subst this;exact⟨[],p,rfl,by simp⟩
      ·rw[kz5 (by simpa using hy)]at h;obtain⟨p',q',rfl,h2⟩:=ihp h;exact⟨y::p',q',rfl,fun u hu=>by rcases kt6.1 hu with rfl|hu;exact hy;exact h2 u hu⟩
    obtain⟨p',q',rfl,h2⟩:=this p hp;exact⟨p',q'++x::q,by simp,h2⟩
  obtain⟨p',q',e2,h2⟩:=key;rw[e2]at h ⊢;have hs:Fil ky (p'++x::q') (x::(p'++q')):=by
   have:=(Fil.swap (ky:=ky) (X:=p') (Y:=[x]) (fun y hy z hz=>by rw[kv0.1 hz];exact h2 y hy)).app (kn8 (l:=q'));simpa using this
  have ht:Fil ky l (p'++q'):=fun s=>by
   have:=(h.trans hs) s;by_cases hs':ky x=s
   ·rw[kw4 (by simpa using hs'),kw4 (by simpa using hs')]at this;exact(List.cons.inj this).2
   ·rw[kz5 (by simpa using hs'),kz5 (by simpa using hs')]at this;exact this
  have:=ih ht;simp only[kq3,kr4]at this ⊢;omega
theorem kL {X Y:List α}:Srd lt ky (X++Y)↔Srd lt ky X∧Srd lt ky Y∧∀x∈X,∀y∈Y,Lq lt ky x y:=List.pairwise_append
theorem z91 (h:eK lt):∀{l r:List α},Srd lt ky l→Srd lt ky r→Fil ky l r→l=r
 |[],[],_,_,_=>rfl
 |[],y::r,_,_,hf=>by have:=hf.symm.mem (x:=y) (by simp);cases this
 |x::l,[],_,_,hf=>by have:=hf.mem (x:=x) (by simp);cases this
 |x::l,y::r,hl,hr,hf=>by
  have hl':=kz2.1 hl;have hr':=kz2.1 hr;have hxy:ky x=ky y:=by
   rcases kt6.1 (hf.mem (x:=x) (by simp))with e|e
   ·rw[e]
   ·rcases kt6.1 (hf.symm.mem (x:=y) (by simp))with e2|e2
    ·rw[e2]
    ·exact h.tri _ _ (hr'.1 x e) (hl'.1 y e2)
  have e:=hf (ky x);rw[kw4 (by simp),kw4 (by simp[hxy])]at e;have hxe:x=y:=(List.cons.inj e).1;subst hxe
  congr 1
  refine z91 h hl'.2 hr'.2 fun s=>?_;have:=hf s;by_cases hs:ky x=s
  ·rw[kw4 (by simpa using hs),kw4 (by simpa using hs)]at this;exact(List.cons.inj this).2
  ·rw[kz5 (by simpa using hs),kz5 (by simpa using hs)]at this;exact this
theorem z92 (h:eK lt) {x:α}:∀{acc:List α},Srd lt ky acc.reverse→Srd lt ky (fA lt ky x acc).reverse∧Fil ky (fA lt ky x acc).reverse (acc.reverse++[x])
 |[],_=>⟨by simp[fA,Srd],by simp[fA];exact kn8⟩
 |y::r,hs=>by
  rw[kz3]at hs;have hs':=kL.1 hs;unfold fA;split
  ·rename_i hlt;obtain⟨g1,g2⟩:=z92 h (x:=x) hs'.1;rw[kz3,kz3];refine⟨kL.2 ⟨g1,kC8 _ _,fun z hz u hu=>?_⟩,?_⟩
   ·rw[kv0.1 hu];rcases zI1.1 (ky6.1 hz)with rfl|hz
    ·exact Lq.of_lt h hlt
    ·exact hs'.2.2 z (ky6.2 hz) y (by simp)
   ·have e1:=g2.app (kn8 (l:=[y]));have e2:=(kn8 (ky:=ky) (l:=r.reverse)).app (Fil.swap (ky:=ky) (X:=[x]) (Y:=[y]) fun a ha b hb=>by rw[kv0.1 ha,kv0.1 hb];exact z90 h hlt);rw[kr3]at e1;have:=e1.trans e2
    rwa [←kr3]at this
  ·rename_i hlt;have hle:Lq lt ky y x:=by unfold Lq;simpa using hlt
   rw[kz3,kz3];refine⟨kL.2 ⟨hs,kC8 _ _,fun z hz u hu=>?_⟩,kn8⟩;rw[kv0.1 hu];rcases kt5.1 hz with hz|hz
   ·exact(hs'.2.2 z hz y (by simp)).trans h hle
   ·rw[kv0.1 hz];exact hle
theorem zh7 (h:eK lt) (l:List α):Srd lt ky (dV lt ky l)∧Fil ky (dV lt ky l) l:=by
 have:∀(l p:List α),Srd lt ky p.reverse→Srd lt ky (l.foldl (fun acc x=>fA lt ky x acc) p).reverse∧Fil ky (l.foldl (fun acc x=>fA lt ky x acc) p).reverse (p.reverse++l):=by
  intro l;induction l with
  |nil=>intro p hp;simp only[List.foldl_nil,ku3];exact⟨hp,kn8⟩
  |cons x l ih=>
   intro p hp;obtain⟨g1,g2⟩:=z92 h (x:=x) hp;obtain⟨k1,k2⟩:=ih _ g1;refine⟨k1,k2.trans ?_⟩;have:=g2.app (kn8 (l:=l))
   rwa [kr3]at this
 have g:=this l [] (by simp[Srd]);unfold dV;simpa using g
theorem z93 (h:eK lt) {l z:List α} (h1:Srd lt ky z) (h2:Fil ky z l):z=dV lt ky l:=
 z91 h h1 (zh7 h l).1 (h2.trans (zh7 h l).2.symm)
def Mrg (lt:ByteArray→ByteArray→Bool) (ky:α→ByteArray) (X Y Z:List α):Prop:=Srd lt ky Z∧Fil ky Z (X++Y)
theorem kp2 {X:List α} (h:Srd lt ky X):Mrg lt ky X [] X:=⟨h,by rw[ku3];exact kn8⟩
theorem Mrg.right {Y:List α} (h:Srd lt ky Y):Mrg lt ky [] Y Y:=⟨h,kn8⟩
theorem kp3 (h:eK lt) {X1 X2 Y1 Y2 Z1 Z2:List α} (hX:Srd lt ky (X1++X2)) (hY:Srd lt ky (Y1++Y2)) (h1:∀y∈Y1,∀x∈X2,lt (ky y) (ky x)=true) (h2:∀x∈X1,∀y∈Y2,Lq lt ky x y)
  (m1:Mrg lt ky X1 Y1 Z1) (m2:Mrg lt ky X2 Y2 Z2):Mrg lt ky (X1++X2) (Y1++Y2) (Z1++Z2):=by
 have hX':=kL.1 hX;have hY':=kL.1 hY;refine⟨kL.2 ⟨m1.1,m2.1,fun a ha b hb=>?_⟩,?_⟩
 ·rcases kt5.1 (m1.2.mem ha)with ha|ha<;>rcases kt5.1 (m2.2.mem hb)with hb|hb
  ·exact hX'.2.2 a ha b hb
  ·exact h2 a ha b hb
  ·exact Lq.of_lt h (h1 a ha b hb)
  ·exact hY'.2.2 a ha b hb
 ·have e1:=m1.2.app m2.2;have e2:=(kn8 (ky:=ky) (l:=X1)).app ((Fil.swap (ky:=ky) (X:=Y1) (Y:=X2) fun y hy x hx=>z90 h (h1 y hy x hx)).app (kn8 (l:=Y2)));simp only[kr3]at e1 e2 ⊢;exact e1.trans e2
theorem Mrg.ins (h:eK lt) {U V:List α} {x:α} (hs:Srd lt ky (U++V)) (h1:∀v∈V,lt (ky x) (ky v)=true) (h2:∀u∈U,Lq lt ky u x):Mrg lt ky (U++V) [x] (U++x::V):=by
 have hs':=kL.1 hs;have:=kp3 h (X1:=U) (X2:=V) (Y1:=[x]) (Y2:=[]) (Z1:=U++[x]) (Z2:=V) hs (by simp[Srd]) (fun y hy v hv=>by rw[kv0.1 hy];exact h1 v hv) (fun _ _ _ hy=>by cases hy)
  ⟨kL.2 ⟨hs'.1,kC8 _ _,fun a ha b hb=>by rw[kv0.1 hb];exact h2 a ha⟩,kn8⟩ (kp2 hs'.2.1)
 simpa using this
theorem Mrg.ahead (h:eK lt) {U V:List α} {x:α} (hs:Srd lt ky (U++V)) (h1:∀u∈U,lt (ky u) (ky x)=true) (h2:∀v∈V,Lq lt ky x v):Mrg lt ky [x] (U++V) (U++x::V):=by
 have hs':=kL.1 hs;have:=kp3 h (X1:=[]) (X2:=[x]) (Y1:=U) (Y2:=V) (Z1:=U) (Z2:=x::V) (by simp[Srd]) hs (fun y hy v hv=>by rw[kv0.1 hv];exact h1 y hy) (fun _ hx=>by cases hx)
  (Mrg.right hs'.1) ⟨kz2.2 ⟨h2,hs'.2.1⟩,kn8⟩
 simpa using this
theorem zI3 (h:eK lt) {U:List α} {x:α} (hs:Srd lt ky U) (hl:∀u,U.getLast?=some u→Lq lt ky u x):∀u∈U,Lq lt ky u x:=by
 intro u hu;rcases kH3 U with rfl|⟨V,w,rfl⟩
 ·cases hu
 ·have hw:=hl w (by simp);simp only[kH4]at hs hu;rcases kt5.1 hu with hv|hv
  ·have hs':=kL.1 hs;exact(hs'.2.2 u hv w (by simp)).trans h hw
  ·rw[kv0.1 hv];exact hw
theorem z94 (h:eK lt) {U:List α} {x:α} (hs:Srd lt ky U) (hl:∀u,U.getLast?=some u→lt (ky u) (ky x)=true):∀u∈U,lt (ky u) (ky x)=true:=by
 intro u hu;rcases kH3 U with rfl|⟨V,w,rfl⟩
 ·cases hu
 ·have hw:=hl w (by simp);simp only[kH4]at hs hu;rcases kt5.1 hu with hv|hv
  ·have hs':=kL.1 hs;have h1:Lq lt ky u w:=hs'.2.2 u hv w (by simp);cases e:lt (ky u) (ky w)with
   |true=>exact h.trans _ _ _ e hw
   |false=>rw[h.tri _ _ e h1];exact hw
  ·rw[kv0.1 hv];exact hw
theorem z95 (h:eK lt) {U:List α} {x:α} (hs:Srd lt ky U) (hl:∀u,U[0]?=some u→lt (ky x) (ky u)=true):∀u∈U,lt (ky x) (ky u)=true:=by
 intro u hu;cases U with
 |nil=>cases hu
 |cons w V=>
  have hw:=hl w rfl;rcases kt6.1 hu with rfl|hv
  ·exact hw
  ·have h1:Lq lt ky w u:=(kz2.1 hs).1 u hv;cases e:lt (ky w) (ky u)with
   |true=>exact h.trans _ _ _ hw e
   |false=>rw[←h.tri _ _ e h1];exact hw
theorem z96 (h:eK lt) {U:List α} {x:α} (hs:Srd lt ky U) (hl:∀u,U[0]?=some u→Lq lt ky x u):∀u∈U,Lq lt ky x u:=by
 intro u hu;cases U with
 |nil=>cases hu
 |cons w V=>
  have hw:=hl w rfl;rcases kt6.1 hu with rfl|hv
  ·exact hw
  ·exact hw.trans h ((kz2.1 hs).1 u hv)
end
end Go.Vt.Al
namespace Go.Vt.Tryz
open Go.Vt.Al
def cY:List UInt8→List UInt8→Int
 |[],[]=>0
 |[],_::_=>-1
 |_::_,[]=>1
 |x::a,y::b=>if x.toNat<y.toNat then -1 else if y.toNat<x.toNat then 1 else cY a b
def ltN (a b:ByteArray):Bool:=decide (cY a.data.toList b.data.toList<0)
theorem zO:∀a b:List UInt8,cY b a=- cY a b
 |[],[]=>rfl
 |[],_::_=>rfl
 |_::_,[]=>rfl
 |x::a,y::b=>by
  simp only[cY];by_cases h1:x.toNat<y.toNat
  ·rw[if_pos h1,if_neg (by omega),if_pos h1];rfl
  ·by_cases h2:y.toNat<x.toNat
   ·rw[if_pos h2,if_neg h1,if_pos h2]
   ·rw[if_neg h1,if_neg h2,if_neg h2,if_neg h1,zO a b]
theorem zI4:∀a b:List UInt8,cY a b=0→a=b
 |[],[],_=>rfl
 |[],_::_,h=>by simp[cY]at h
 |_::_,[],h=>by simp[cY]at h
 |x::a,y::b,h=>by
  simp only[cY]at h;split at h
  ·omega
  ·split at h
   ·omega
   ·have hx:x=y:=UInt8.toNat_inj.1 (by omega);rw[hx,zI4 a b h]
theorem zI5:∀a:List UInt8,cY a a=0
 |[]=>rfl
 |x::a=>by simp only[cY];rw[if_neg (by omega),if_neg (by omega),zI5 a]
theorem z97:∀a b c:List UInt8,cY a b<0→cY b c<0→cY a c<0
 |[],[],_,h,_=>by simp[cY]at h
 |[],_::_,[],_,h=>by simp[cY]at h
 |[],_::_,_::_,_,_=>by simp[cY]
 |_::_,[],_,h,_=>by simp[cY]at h
 |_::_,_::_,[],_,h=>by simp[cY]at h
 |x::a,y::b,z::c,h,g=>by
  simp only[cY]at h g ⊢;by_cases h1:x.toNat<z.toNat
  ·rw[if_pos h1];omega
  ·rw[if_neg h1];by_cases h2:z.toNat<x.toNat
   ·rw[if_pos h2];by_cases h3:x.toNat<y.toNat
    ·rw[if_neg (by omega),if_pos (by omega)]at g;omega
    ·rw[if_neg h3]at h;by_cases h4:y.toNat<x.toNat
     ·rw[if_pos h4]at h;omega
     ·rw[if_neg (by omega),if_pos (by omega)]at g;omega
   ·rw[if_neg h2];by_cases h3:x.toNat<y.toNat
    ·rw[if_neg (by omega),if_pos (by omega)]at g;omega
    ·rw[if_neg h3]at h;by_cases h4:y.toNat<x.toNat
     ·rw[if_pos h4]at h;omega
     ·rw[if_neg h4]at h;rw[if_neg (by omega),if_neg (by omega)]at g;exact z97 a b c h g
theorem zI6:∀a b:List UInt8,cY a b=-1∨cY a b=0∨cY a b=1
 |[],[]=>.inr (.inl rfl)
 |[],_::_=>.inl rfl
 |_::_,[]=>.inr (.inr rfl)
 |x::a,y::b=>by
  simp only[cY];split
  ·exact .inl rfl
  ·split
   ·exact .inr (.inr rfl)
   ·exact zI6 a b
theorem wI:eK ltN:=by
 refine⟨fun a=>?_,fun a b c h g=>?_,fun a b h g=>?_⟩
 ·unfold ltN;rw[zI5];rfl
 ·unfold ltN at *;exact decide_eq_true (z97 _ _ _ (of_decide_eq_true h) (of_decide_eq_true g))
 ·unfold ltN at *;have h1:=of_decide_eq_false h;have h2:=of_decide_eq_false g;rw[zO a.data.toList b.data.toList]at h2;have:=zI4 _ _ (show cY a.data.toList b.data.toList=0 by omega);cases a;cases b;simp only at this;rw[Array.toList_inj.1 this]
theorem zI7:∀a b:List UInt8,Op.bytesLess a b=decide (cY a b<0)
 |[],[]=>by simp[Op.bytesLess,cY]
 |[],_::_=>by simp[Op.bytesLess,cY]
 |_::_,[]=>by simp[Op.bytesLess,cY]
 |x::a,y::b=>by
  simp only[Op.bytesLess,cY,zI7 a b];by_cases h1:x.toNat<y.toNat
  ·have:x<y:=UInt8.lt_iff_toNat_lt.2 h1;simp[this,h1]
  ·have n1:¬x<y:=fun h=>h1 (UInt8.lt_iff_toNat_lt.1 h);by_cases h2:y.toNat<x.toNat
   ·have n2:¬x=y:=fun h=>by rw[h]at h2;omega
    simp[n1,n2,h1,h2]
   ·have n2:x=y:=UInt8.toNat_inj.1 (by omega);subst n2;simp
theorem zh8 (a:ByteArray):a.toList=a.data.toList:=by rw[ByteArray.toList_eq]
theorem j05 (a b:ByteArray):Op.bytesLess a.toList b.toList=ltN a b:=by rw[zh8,zh8,zI7];rfl
theorem j06 (a b:ByteArray):(Op.bytesLess a.toList b.toList||a.toList == b.toList) = !ltN b a:=by
 rw[zh8,zh8,zI7];unfold ltN;rw[zO a.data.toList b.data.toList];rcases zI6 a.data.toList b.data.toList with h|h|h
 ·rw[h];simp
 ·have:=zI4 _ _ h;rw[h,this];simp
 ·have:¬a.data.toList=b.data.toList:=fun e=>by rw[e,zI5]at h;cases h
  rw[h,beq_false_of_ne this];rfl
theorem z98 {α β:Type} {lt:ByteArray→ByteArray→Bool} {nm:β→ByteArray} {f:α→β} {x:α}:∀l:List α,fA lt nm (f x) (l.map f)=(fA lt (fun a=>nm (f a)) x l).map f
 |[]=>rfl
 |y::r=>by
  simp only[kq1,fA];split
  ·rw[z98 r];rfl
  ·rfl
theorem z99 {α β:Type} {lt:ByteArray→ByteArray→Bool} {nm:β→ByteArray} {f:α→β} (l:List α):dV lt nm (l.map f)=(dV lt (fun a=>nm (f a)) l).map f:=by
 have:∀(l p:List α),(l.map f).foldl (fun acc x=>fA lt nm x acc) (p.map f)=(l.foldl (fun acc x=>fA lt (fun a=>nm (f a)) x acc) p).map f:=by
  intro l;induction l with
  |nil=>intro p;rfl
  |cons x l ih=>intro p;simp only[kq1,kE2,z98,ih]
 unfold dV;have h:=this l [];rw[List.map_nil]at h;rw[h,List.map_reverse]
end Go.Vt.Tryz
