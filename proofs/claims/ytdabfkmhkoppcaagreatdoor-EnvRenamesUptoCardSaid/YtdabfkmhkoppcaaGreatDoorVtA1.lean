import Derived.Test.YtdabfkmhkoppcaaGreatDoorVtD13
set_option linter.all false
set_option maxRecDepth 100000
open Int renaming le_refl→km9
open List renaming getD_eq_getElem?_getD→kj0,getElem?_eq_getElem→ke7,getElem?_eq_some_iff→kd6,getElem?_reverse→ku6,length_erase_of_mem→kt7,length_pos_of_mem→kn4,map_cons→ke5,mem_cons→kg9,mem_erase_of_ne→kr2,mem_of_getElem?→kd7,reverse_cons→km4
open Option renaming ite_none_right_eq_some→ks2
namespace Go.Vt.Al
def cE:List Int→Int→Option Nat
 |[],_=>none
 |a::l,n=>match cE l n with
  |some i=>some (i+1)
  |none=>if a=n then some 0 else none
theorem kL {l:List Int} {n:Int}:cE l n=none↔n∉l:=by
 induction l with
 |nil=>simp[cE]
 |cons a l ih=>
  simp only[cE];cases h:cE l n with
  |some i=>
   have:¬(n∉l):=fun hn=>by rw[ih.2 hn]at h;cases h
   simp only[reduceCtorEq,kg9,false_iff];exact fun hn=>this fun hm=>hn (.inr hm)
  |none=>
   have hn:=ih.1 h;simp only[ite_eq_right_iff,reduceCtorEq,imp_false,kg9,not_or];exact⟨fun hne=>⟨fun e=>hne e.symm,hn⟩,fun⟨e,_⟩ g=>e g.symm⟩
theorem sP {l:List Int} {n:Int} {i:Nat} (h:cE l n=some i):i<l.length:=by
 induction l generalizing i with
 |nil=>cases h
 |cons a l ih=>
  simp only[cE]at h;cases h1:cE l n with
  |some j=>rw[h1]at h;cases h;have:=ih h1;simp;omega
  |none=>
   rw[h1]at h;simp only[ks2]at h;obtain⟨_,h⟩:=h;cases h;simp
theorem gU {l r:List Int} {n:Int}:cE (l++r) n=match cE r n with|some i=>some (l.length+i)|none=>cE l n:=by
 induction l with
 |nil=>simp only[List.nil_append,cE,List.length_nil,Nat.zero_add];cases cE r n<;>rfl
 |cons a l ih=>
  simp only[List.cons_append,cE,ih,List.length_cons];cases cE r n with
  |some i=>simp only[Option.some.injEq];omega
  |none=>rfl
theorem lO {l:List Int} {n:Int} {i:Nat}:cE l n=some i↔l[i]?=some n∧∀j,i<j→l[j]?≠some n:=by
 induction l generalizing i with
 |nil=>simp[cE]
 |cons a l ih=>
  simp only[cE];cases h1:cE l n with
  |some k=>
   have hk:=ih.1 h1;constructor
   ·intro h;cases h;refine⟨by simpa using hk.1,fun j hj=>?_⟩;cases j with
    |zero=>omega
    |succ j=>simpa using hk.2 j (by omega)
   ·rintro⟨e,hl⟩
    congr 1
    cases i with
    |zero=>exact absurd (by simpa using hk.1) (hl (k+1) (by omega))
    |succ i=>
     have:cE l n=some i:=ih.2 ⟨by simpa using e,fun j hj=>by simpa using hl (j+1) (by omega)⟩;rw[h1]at this;cases this;rfl
  |none=>
   have hn:=kL.1 h1;constructor
   ·intro h;simp only[ks2]at h;obtain⟨rfl,h⟩:=h;cases h;refine⟨by simp,fun j hj=>?_⟩;cases j with
    |zero=>omega
    |succ j=>intro hc;exact hn (kd7 (by simpa using hc))
   ·rintro⟨e,_⟩;cases i with
    |zero=>
     have:a=n:=by simpa using e
     rw[if_pos this]
    |succ i=>exact absurd (kd7 (by simpa using e)) hn
def lf (A B:List Int) (n m:Int):Prop:=cE A n=cE B m∧(cE A n=none→n=m)
def fK:Int:=6
def cV {α β:Type} (R:α→β→Prop):List α→List β→Prop
 |[],[]=>True
 |a::l,b::r=>R a b∧cV R l r
 |_,_=>False
def bub (n:Int):List Int→List Int
 |[]=>[n]
 |y::r=>if n<y then y::bub n r else n::y::r
def dS (l:List Int) (n:Int):List Int:=if n∈l then l else (bub n l.reverse).reverse
theorem zC1 {n m:Int}:∀{l:List Int},m∈bub n l↔m=n∨m∈l
 |[]=>by simp[bub]
 |y::r=>by
  unfold bub;split
  ·simp only[kg9,zC1 (l:=r)];constructor
   ·rintro(h|h|h)<;>simp[h]
   ·rintro(h|h|h)<;>simp[h]
  ·simp only[kg9]
theorem zC2 {l:List Int} {n m:Int}:m∈dS l n↔m=n∨m∈l:=by
 unfold dS;split
 ·rename_i h;exact⟨.inr,fun g=>g.elim (fun e=>e▸h) id⟩
 ·simp[zC1]
def cW (tk:List Int) (k:Int):Int:=if _h:k∈tk then cW (tk.erase k) (k+1)else k
 termination_by tk.length
 decreasing_by
 rw[kt7 _h];have:=kn4 _h;omega
theorem jQ7:∀(n:Nat) {t u:List Int} {k:Int},t.length≤n→(∀i,k≤i→(i∈t↔i∈u))→cW t k=cW u k:=by
 intro n;induction n with
 |zero=>
  intro t u k hn h;have:t=[]:=List.length_eq_zero_iff.1 (by omega);subst this;have hu:k∉u:=fun g=>by have:=(h k (km9 _)).2 g;cases this
  rw[cW,dif_neg (by simp),cW,dif_neg hu]
 |succ n ih=>
  intro t u k hn h;by_cases hk:k∈t
  ·have hu:=(h k (km9 _)).1 hk;rw[cW,dif_pos hk];rw[cW.eq_def u k,dif_pos hu];refine ih (by rw[kt7 hk];have:=kn4 hk;omega) fun i hi=>?_;rw[kr2 (by omega),kr2 (by omega)];exact h i (by omega)
  ·have hu:k∉u:=fun g=>hk ((h k (km9 _)).2 g);rw[cW,dif_neg hk,cW,dif_neg hu]
theorem z00 {t:List Int} {k:Int} (h:k∈t):cW t k=cW t (k+1):=by
 rw[cW,dif_pos h];exact jQ7 _ (Nat.le_refl _) fun i hi=>kr2 (by omega)
theorem uR {t:List Int} {k:Int} (h:k∉t):cW t k=k:=by rw[cW,dif_neg h]
structure WS where
 nums:List Int
 next:Int
 free:List Int
def cG (tk:List Int) (sb:Int→Int) (A:List Int) (n:Int) (w:WS):Int×WS:=
 match cE A n with
 |some i=>if w.nums.getD i 0<0 then (cW tk w.next,⟨w.nums.set i (cW tk w.next),cW tk w.next+1,w.free⟩)else (w.nums.getD i 0,w)
 |none=>(sb n,⟨w.nums,w.next,dS w.free n⟩)
def aH {α β:Type} (f:α→WS→β×WS):List α→WS→List β×WS
 |[],w=>([],w)
 |a::l,w=>((f a w).1::(aH f l (f a w).2).1,(aH f l (f a w).2).2)
def tyF (tk:List Int) (sb:Int→Int) (A:List Int):Ty→WS→Ty×WS
 |.mk k n l,w=>(.mk k (if k=fK then (cG tk sb A n w).1 else n) (go l (if k=fK then (cG tk sb A n w).2 else w)).1,(go l (if k=fK then (cG tk sb A n w).2 else w)).2)
 where
 go:List Ty→WS→List Ty×WS
  |[],w=>([],w)
  |t::r,w=>((tyF tk sb A t w).1::(go r (tyF tk sb A t w).2).1,(go r (tyF tk sb A t w).2).2)
def ctF (tk:List Int) (sb:Int→Int) (A:List Int) (c:Ct) (w:WS):Ct×WS:=(⟨c.name,(tyF.go tk sb A c.args w).1⟩,(tyF.go tk sb A c.args w).2)
def bY (tk:List Int) (sb:Int→Int) (A:List Int) (m:Tym) (w:WS):Tym×WS:=(⟨m.name,(tyF tk sb A m.t w).1,(aH (ctF tk sb A) m.cts (tyF tk sb A m.t w).2).1⟩,(aH (ctF tk sb A) m.cts (tyF tk sb A m.t w).2).2)
def cH (tk:List Int) (sb:Int→Int) (A:List Int) (m:Vam) (w:WS):Vam×WS:=(⟨m.name,⟨m.s.gens,(tyF tk sb A m.s.t w).1⟩⟩,(tyF tk sb A m.s.t w).2)
def aY (n:Nat) (w:WS):WS:={ w with nums:=w.nums++List.replicate n (-1) }
def dQ (n:Nat) (w:WS):WS:={ w with nums:=w.nums.take n }
def cU (l:List Int):List Int:=l.foldl (fun out k=>if 0≤k then dS out k else out) []
def aZ (tk:List Int) (sb:Int→Int) (A:List Int):Stx→WS→Stx×WS
 |.mk ts vs ss fs gs,w=>
  let a:=aH (bY tk sb A) ts w
  let b:=aH (cH tk sb A) vs a.2
  let c:=goS A ss b.2
  let d:=goF A fs c.2
  let e:=goG A gs d.2
  (.mk a.1 b.1 c.1 d.1 e.1,e.2)
 where
 goS (A:List Int):List (ByteArray×Stx)→WS→List (ByteArray×Stx)×WS
  |[],w=>([],w)
  |(s,x)::l,w=>
   let a:=aZ tk sb A x w
   let b:=goS A l a.2
   ((s,a.1)::b.1,b.2)
 goF (A:List Int):List (ByteArray×List Int×Stx×List Int×Stx)→WS→List (ByteArray×List Int×Stx×List Int×Stx)×WS
  |[],w=>([],w)
  |(s,p,x,q,y)::l,w=>
   let a:=aZ tk sb (A++p) x (aY p.length w)
   let c:=aZ tk sb (A++p++q) y (aY q.length a.2)
   let v:=dQ (A.length+p.length) c.2
   let b:=goF A l (dQ A.length v)
   ((s,cU (v.nums.drop A.length),a.1,cU (c.2.nums.drop (A.length+p.length)),c.1)::b.1,b.2)
 goG (A:List Int):List (ByteArray×List Int×Stx)→WS→List (ByteArray×List Int×Stx)×WS
  |[],w=>([],w)
  |(s,q,y)::l,w=>
   let c:=aZ tk sb (A++q) y (aY q.length w)
   let b:=goG A l (dQ A.length c.2)
   ((s,cU (c.2.nums.drop A.length),c.1)::b.1,b.2)
def bU (tk:List Int) (sb:Int→Int) (A:List Int) (a:List Int×Stx) (w:WS):(List Int×Stx)×WS:=
 ((cU ((aZ tk sb (A++a.1) a.2 (aY a.1.length w)).2.nums.drop A.length),(aZ tk sb (A++a.1) a.2 (aY a.1.length w)).1),dQ A.length (aZ tk sb (A++a.1) a.2 (aY a.1.length w)).2)
def w0:WS:=⟨[],0,[]⟩
def cR (a:List Int×Stx):List Int:=(bU [] id [] a w0).2.free
def dH {α:Type} (lt:ByteArray→ByteArray→Bool) (nm:α→ByteArray) (x:α):List α→List α
 |[]=>[x]
 |y::r=>if lt (nm x) (nm y)=true then y::dH lt nm x r else x::y::r
def bL {α:Type} (lt:ByteArray→ByteArray→Bool) (nm:α→ByteArray) (l:List α):List α:=(l.foldl (fun acc x=>dH lt nm x acc) []).reverse
def bQ (lt:ByteArray→ByteArray→Bool):Stx→Stx
 |.mk ts vs ss fs gs=>.mk (bL lt (·.name) ts) (bL lt (·.name) vs) (bL lt (·.1) (goS ss)) (bL lt (·.1) (goF fs)) (bL lt (·.1) (goG gs))
 where
 goS:List (ByteArray×Stx)→List (ByteArray×Stx)
  |[]=>[]
  |(s,x)::l=>(s,bQ lt x)::goS l
 goF:List (ByteArray×List Int×Stx×List Int×Stx)→List (ByteArray×List Int×Stx×List Int×Stx)
  |[]=>[]
  |(s,p,x,q,y)::l=>(s,p,bQ lt x,q,bQ lt y)::goF l
 goG:List (ByteArray×List Int×Stx)→List (ByteArray×List Int×Stx)
  |[]=>[]
  |(s,q,y)::l=>(s,q,bQ lt y)::goG l
def dW (lt:ByteArray→ByteArray→Bool) (a:List Int×Stx):List Int×Stx:=(bU (cR a) id [] (a.1,bQ lt a.2) w0).1
section
variable {tk:List Int} {sb:Int→Int} {A B:List Int}
end
theorem z01 {α:Type} {lt:ByteArray→ByteArray→Bool} {nm:α→ByteArray} {R:α→α→Prop} (hR:∀a b,R a b→nm a=nm b) {x y:α} (h:R x y):∀{l r:List α},cV R l r→cV R (dH lt nm x l) (dH lt nm y r)
 |[],[],_=>⟨h,trivial⟩
 |a::l,b::r,⟨h1,h2⟩=>by
  unfold dH;rw[←hR x y h,←hR a b h1];split
  ·exact⟨h1,z01 hR h h2⟩
  ·exact⟨h,h1,h2⟩
 |[],_::_,h=>h.elim
 |_::_,[],h=>h.elim
theorem z02 {α:Type} {R:α→α→Prop}:∀{l r l' r':List α},cV R l r→cV R l' r'→cV R (l++l') (r++r')
 |[],[],_,_,_,h=>h
 |_::_,_::_,_,_,⟨h1,h2⟩,h=>⟨h1,z02 h2 h⟩
 |[],_::_,_,_,h,_=>h.elim
 |_::_,[],_,_,h,_=>h.elim
theorem z03 {α:Type} {R:α→α→Prop}:∀{l r:List α},cV R l r→cV R l.reverse r.reverse
 |[],[],_=>trivial
 |a::l,b::r,⟨h1,h2⟩=>by
  rw[km4,km4];exact z02 (z03 h2) ⟨h1,trivial⟩
 |[],_::_,h=>h.elim
 |_::_,[],h=>h.elim
theorem yA {α:Type} {lt:ByteArray→ByteArray→Bool} {nm:α→ByteArray} {R:α→α→Prop} (hR:∀a b,R a b→nm a=nm b) {l r:List α} (h:cV R l r):cV R (bL lt nm l) (bL lt nm r):=by
 have:∀(l r p q:List α),cV R l r→cV R p q→cV R (l.foldl (fun acc x=>dH lt nm x acc) p) (r.foldl (fun acc x=>dH lt nm x acc) q):=by
  intro l;induction l with
  |nil=>intro r p q h1 h2;cases r with
   |nil=>exact h2
   |cons=>exact h1.elim
  |cons a l ih=>intro r p q h1 h2;cases r with
   |nil=>exact h1.elim
   |cons b r=>exact ih r _ _ h1.2 (z01 hR h1.1 h2)
 exact z03 (this l r [] [] h trivial)
theorem uS (lt:ByteArray→ByteArray→Bool):∀l,bQ.goS lt l=l.map fun a=>(a.1,bQ lt a.2)
 |[]=>rfl
 |(s,x)::l=>by simp only[bQ.goS,uS lt l,ke5]
theorem uT (lt:ByteArray→ByteArray→Bool):∀l,bQ.goF lt l=l.map fun a=>(a.1,a.2.1,bQ lt a.2.2.1,a.2.2.2.1,bQ lt a.2.2.2.2)
 |[]=>rfl
 |(s,p,x,q,y)::l=>by simp only[bQ.goF,uT lt l,ke5]
theorem uU (lt:ByteArray→ByteArray→Bool):∀l,bQ.goG lt l=l.map fun a=>(a.1,a.2.1,bQ lt a.2.2)
 |[]=>rfl
 |(s,q,y)::l=>by simp only[bQ.goG,uU lt l,ke5]
theorem zd4 {α:Type} {R Q:α→α→Prop} {f:α→α}:∀{l r:List α},(∀a∈l,∀b,R a b→Q (f a) (f b))→cV R l r→cV Q (l.map f) (r.map f)
 |[],[],_,_=>trivial
 |a::l,b::r,h,⟨h1,h2⟩=>⟨h a (by simp) b h1,zd4 (fun x hx=>h x (by simp[hx])) h2⟩
 |[],_::_,_,h=>h.elim
 |_::_,[],_,h=>h.elim
def cB:Ty→Int→Prop
 |.mk k n l,m=>(k=fK∧n=m)∨go l m
 where
 go:List Ty→Int→Prop
  |[],_=>False
  |t::r,m=>cB t m∨go r m
theorem uV {m:Int}:∀{l:List Ty},cB.go l m↔∃t∈l,cB t m
 |[]=>by simp[cB.go]
 |t::r=>by simp[cB.go,uV (l:=r)]
def oG (t:Tym) (m:Int):Prop:=cB t.t m∨∃c∈t.cts,cB.go c.args m
def aU:Stx→Int→Prop
 |.mk ts vs ss fs gs,m=>(∃t∈ts,oG t m)∨(∃v∈vs,cB v.s.t m)∨goS ss m∨goF fs m∨goG gs m
 where
 goS:List (ByteArray×Stx)→Int→Prop
  |[],_=>False
  |(_,x)::l,m=>aU x m∨goS l m
 goF:List (ByteArray×List Int×Stx×List Int×Stx)→Int→Prop
  |[],_=>False
  |(_,p,x,q,y)::l,m=>(m∉p∧(aU x m∨(m∉q∧aU y m)))∨goF l m
 goG:List (ByteArray×List Int×Stx)→Int→Prop
  |[],_=>False
  |(_,q,y)::l,m=>(m∉q∧aU y m)∨goG l m
def im (A B:List Int) (n:Int):Int:=match cE A n with
 |some i=>B.getD i 0
 |none=>n
def dC (A B:List Int):Ty→Ty
 |.mk k n l=>.mk k (if k=fK then im A B n else n) (go l)
 where
 go:List Ty→List Ty
  |[]=>[]
  |t::r=>dC A B t::go r
def nK (A B:List Int) (c:Ct):Ct:=⟨c.name,dC.go A B c.args⟩
def gV (A B:List Int) (m:Tym):Tym:=⟨m.name,dC A B m.t,m.cts.map (nK A B)⟩
def jB (A B:List Int) (m:Vam):Vam:=⟨m.name,⟨m.s.gens,dC A B m.s.t⟩⟩
def eM (A B own out:List Int) (F:Int→Prop):Prop:=
 out.length=own.length∧(∀n,F n→n∉own→im A B n∉out)∧(∀(i j:Nat) (x y u v:Int),i<j→own[i]?=some x→own[j]?=some y→x≠y→out[i]?=some u→out[j]?=some v→u≠v)
def bG (A B:List Int):Stx→Stx→Prop
 |.mk ts vs ss fs gs,.mk ts' vs' ss' fs' gs'=>ts'=ts.map (gV A B)∧vs'=vs.map (jB A B)∧goS A B ss ss'∧goF A B fs fs'∧goG A B gs gs'
 where
 goS (A B:List Int):List (ByteArray×Stx)→List (ByteArray×Stx)→Prop
  |[],r=>r=[]
  |(s,x)::l,r=>∃x' r',r=(s,x')::r'∧bG A B x x'∧goS A B l r'
 goF (A B:List Int):List (ByteArray×List Int×Stx×List Int×Stx)→List (ByteArray×List Int×Stx×List Int×Stx)→Prop
  |[],r=>r=[]
  |(s,p,x,q,y)::l,r=>∃p' x' q' y' r',r=(s,p',x',q',y')::r'∧eM A B p p' (fun n=>aU x n∨(n∉q∧aU y n))∧bG (A++p) (B++p') x x'∧eM (A++p) (B++p') q q' (aU y)∧bG (A++p++q) (B++p'++q') y y'∧goF A B l r'
 goG (A B:List Int):List (ByteArray×List Int×Stx)→List (ByteArray×List Int×Stx)→Prop
  |[],r=>r=[]
  |(s,q,y)::l,r=>∃q' y' r',r=(s,q',y')::r'∧eM A B q q' (aU y)∧bG (A++q) (B++q') y y'∧goG A B l r'
def Good (A B:List Int) (F:Int→Prop):Prop:=∀n,F n→lf A B n (im A B n)
theorem Good.bind {A B own out:List Int} {F:Int→Prop} (hAB:A.length=B.length) (hb:eM A B own out F) (hG:Good A B fun n=>F n∧n∉own):Good (A++own) (B++out) F:=by
 obtain⟨hlen,h1,h2⟩:=hb;intro n hn;by_cases hm:n∈own
 ·-- one of the binder's own
  cases e:cE own n with
  |none=>exact absurd hm (kL.1 e)
  |some j=>
   have hj:=lO.1 e;have hjl:=sP e;have ho:∃u,out[j]?=some u:=⟨out[j]'(by omega),ke7 (by omega)⟩;obtain⟨u,hu⟩:=ho;have him:im (A++own) (B++out) n=u:=by
    unfold im;rw[gU,e];simp only[kj0];rw[hAB,List.getElem?_append_right (by omega),Nat.add_sub_cancel_left,hu];rfl
   rw[him];have hout:cE out u=some j:=by
    refine lO.2 ⟨hu,fun k hk hc=>?_⟩;have hkl:k<own.length:=by
     have:=(kd6.1 hc).1;omega
    obtain⟨y,hy⟩:∃y,own[k]?=some y:=⟨own[k],ke7 hkl⟩;have hne:n≠y:=fun g=>hj.2 k hk (by rw[hy,g]);exact h2 j k n y u u hk hj.1 hy hne hu hc rfl
   refine⟨?_,?_⟩
   ·rw[gU,gU,e,hout,hAB]
   ·intro hc;rw[gU,e]at hc;cases hc
 ·have e:=kL.2 hm;have g:=hG n ⟨hn,hm⟩;have hc:=h1 n hn hm;have e2:=kL.2 hc;have him:im (A++own) (B++out) n=im A B n:=by
   unfold im;rw[gU,e];simp only;cases e3:cE A n with
   |none=>rfl
   |some i=>
    have:=sP e3;simp only[kj0];rw[List.getElem?_append_left (by omega)]
  rw[him];refine⟨?_,?_⟩
  ·rw[gU,gU,e,e2];exact g.1
  ·intro h;rw[gU,e]at h;exact g.2 h
theorem zd5 {α:Type} {R:α→α→Prop} {f:α→α}:∀{l:List α},(∀a∈l,R a (f a))→cV R l (l.map f)
 |[],_=>trivial
 |a::l,h=>⟨h a (by simp),zd5 fun x hx=>h x (by simp[hx])⟩
def zC3 (A B A' B':List Int):Prop:=∀n m,lf A B n m→lf A' B' n m
theorem zC3.ext {A B A' B' p q:List Int} (hAB:A.length=B.length) (hAB':A'.length=B'.length) (h:zC3 A B A' B'):zC3 (A++p) (B++q) (A'++p) (B'++q):=by
 intro n m;unfold lf;rw[gU,gU,gU,gU];cases e1:cE p n with
 |some i=>
  cases e2:cE q m with
  |some j=>
   simp only[Option.some.injEq,reduceCtorEq,false_implies,and_true];omega
  |none=>
   simp only[reduceCtorEq,false_implies,and_true];intro hc;have:=sP hc.symm;omega
 |none=>
  cases e2:cE q m with
  |some j=>
   simp only;rintro⟨hc,_⟩;have:=sP hc;omega
  |none=>exact fun hh=>h n m hh
def qW (l:List Int):Prop:=∀(i j:Nat) (x:Int),l[i]?=some x→l[j]?=some x→i=j
theorem qW.idx {l:List Int} (h:qW l) {n:Int} {i:Nat}:cE l n=some i↔l[i]?=some n:=
 ⟨fun e=>(lO.1 e).1,fun e=>lO.2 ⟨e,fun j hj hc=>by have:=h i j n e hc;omega⟩⟩
theorem qW.rev {l:List Int} (h:qW l):qW l.reverse:=by
 intro i j x hi hj;have li:=(kd6.1 hi).1;have lj:=(kd6.1 hj).1;simp only[List.length_reverse]at li lj;rw[ku6 li]at hi;rw[ku6 lj]at hj;have:=h _ _ x hi hj;omega
variable {tk:List Int} {sb:Int→Int}
theorem z04 {A:List Int} {n m:Int} {w:WS} (h:m∈w.free∨(n=m∧m∉A)):m∈(cG tk sb A n w).2.free:=by
 unfold cG;split
 ·rename_i i e;have hm:m∈w.free:=h.elim id fun h=>by
   have:m∈A:=by
    have:=(lO.1 e).1;rw[h.1]at this;exact kd7 this
   exact absurd this h.2
  split<;>exact hm
 ·show m∈dS w.free n;rw[zC2];exact h.elim .inr fun h=>.inl h.1.symm
theorem zd6 {α β:Type} {f:α→WS→β×WS} {P:α→Int→Prop}:∀{l:List α},(∀a∈l,∀w m,(m∈w.free∨P a m)→m∈(f a w).2.free)→∀w m,(m∈w.free∨∃a∈l,P a m)→m∈(aH f l w).2.free
 |[],_,w,m,h=>h.elim id fun⟨a,ha,_⟩=>by cases ha
 |a::l,hf,w,m,h=>by
  show m∈(aH f l (f a w).2).2.free;refine zd6 (fun b hb=>hf b (by simp[hb])) _ m ?_;rcases h with h|⟨b,hb,hp⟩
  ·exact .inl (hf a (by simp) w m (.inl h))
  ·rcases kg9.1 hb with rfl|hb
   ·exact .inl (hf b (by simp) w m (.inr hp))
   ·exact .inr ⟨b,hb,hp⟩
theorem yB {A:List Int}:∀(t:Ty) (w:WS) (m:Int),(m∈w.free∨(cB t m∧m∉A))→m∈(tyF tk sb A t w).2.free:=by
 intro t;induction t using Ty.ind with
 |h k n l ih=>
 intro w m h;have g:∀(l:List Ty),(∀t∈l,∀(w:WS) (m:Int),(m∈w.free∨(cB t m∧m∉A))→m∈(tyF tk sb A t w).2.free)→∀(w:WS) (m:Int),(m∈w.free∨(cB.go l m∧m∉A))→m∈(tyF.go tk sb A l w).2.free:=by
  intro l;induction l with
  |nil=>intro _ w m h;exact h.elim id fun h=>h.1.elim
  |cons t r ih2=>
   intro hi w m h;show m∈(tyF.go tk sb A r (tyF tk sb A t w).2).2.free;refine ih2 (fun t ht=>hi t (by simp[ht])) _ m ?_;rcases h with h|⟨h|h,hA⟩
   ·exact .inl (hi t (by simp) w m (.inl h))
   ·exact .inl (hi t (by simp) w m (.inr ⟨h,hA⟩))
   ·exact .inr ⟨h,hA⟩
 show m∈(tyF.go tk sb A l (if k=fK then (cG tk sb A n w).2 else w)).2.free;refine g l ih _ m ?_;by_cases hk:k=fK
 ·rw[if_pos hk];rcases h with h|⟨⟨_,h⟩|h,hA⟩
  ·exact .inl (z04 (.inl h))
  ·exact .inl (z04 (.inr ⟨h,hA⟩))
  ·exact .inr ⟨h,hA⟩
 ·rw[if_neg hk];rcases h with h|⟨⟨h,_⟩|h,hA⟩
  ·exact .inl h
  ·exact absurd h hk
  ·exact .inr ⟨h,hA⟩
theorem z05 {A:List Int}:∀(l:List Ty) (w:WS) (m:Int),(m∈w.free∨(cB.go l m∧m∉A))→m∈(tyF.go tk sb A l w).2.free
 |[],w,m,h=>h.elim id fun h=>h.1.elim
 |t::r,w,m,h=>by
  show m∈(tyF.go tk sb A r (tyF tk sb A t w).2).2.free;refine z05 r _ m ?_;rcases h with h|⟨h|h,hA⟩
  ·exact .inl (yB t w m (.inl h))
  ·exact .inl (yB t w m (.inr ⟨h,hA⟩))
  ·exact .inr ⟨h,hA⟩
theorem jQ8 {A:List Int} (t:Tym) (w:WS) (m:Int) (h:m∈w.free∨(oG t m∧m∉A)):m∈(bY tk sb A t w).2.free:=by
 show m∈(aH (ctF tk sb A) t.cts (tyF tk sb A t.t w).2).2.free;refine zd6 (P:=fun c m=>cB.go c.args m∧m∉A) (fun c _ w m h=>z05 c.args w m h) _ m ?_;rcases h with h|⟨h|⟨c,hc,h⟩,hA⟩
 ·exact .inl (yB t.t w m (.inl h))
 ·exact .inl (yB t.t w m (.inr ⟨h,hA⟩))
 ·exact .inr ⟨c,hc,h,hA⟩
theorem jQ9:∀(s:Stx) (A:List Int) (w:WS) (m:Int),(m∈w.free∨(aU s m∧m∉A))→m∈(aZ tk sb A s w).2.free:=by
 intro s;induction s using Stx.ind with
 |h ts vs ss fs gs i1 i2 i3=>
 intro A w m h;have gS:∀(l:List (ByteArray×Stx)),(∀x∈l,∀A w m,(m∈w.free∨(aU x.2 m∧m∉A))→m∈(aZ tk sb A x.2 w).2.free)→∀w,(m∈w.free∨(aU.goS l m∧m∉A))→m∈(aZ.goS tk sb A l w).2.free:=by
  intro l;induction l with
  |nil=>intro _ w h;rw[aZ.goS];exact h.elim id fun h=>by simp[aU.goS]at h
  |cons x l ih=>
   obtain⟨s,x⟩:=x;intro hi w h;rw[aZ.goS];refine ih (fun y hy=>hi y (by simp[hy])) _ ?_;rcases h with h|⟨h,hA⟩
   ·exact .inl (hi (s,x) (by simp) A w m (.inl h))
   ·rw[aU.goS]at h;rcases h with h|h
    ·exact .inl (hi (s,x) (by simp) A w m (.inr ⟨h,hA⟩))
    ·exact .inr ⟨h,hA⟩
 have gF:∀(l:List (ByteArray×List Int×Stx×List Int×Stx)),(∀x∈l,(∀A w m,(m∈w.free∨(aU x.2.2.1 m∧m∉A))→m∈(aZ tk sb A x.2.2.1 w).2.free)∧(∀A w m,(m∈w.free∨(aU x.2.2.2.2 m∧m∉A))→m∈(aZ tk sb A x.2.2.2.2 w).2.free))→∀w,(m∈w.free∨(aU.goF l m∧m∉A))→m∈(aZ.goF tk sb A l w).2.free:=by
  intro l;induction l with
  |nil=>intro _ w h;rw[aZ.goF];exact h.elim id fun h=>by simp[aU.goF]at h
  |cons x l ih=>
   obtain⟨s,p,x,q,y⟩:=x;intro hi w h;rw[aZ.goF];have k:=hi (s,p,x,q,y) (by simp);refine ih (fun y hy=>hi y (by simp[hy])) _ ?_;have key:m∈w.free∨(m∉A∧m∉p∧(aU x m∨(m∉q∧aU y m)))→m∈(aZ tk sb (A++p++q) y (aY q.length (aZ tk sb (A++p) x (aY p.length w)).2)).2.free:=by
    rintro(h|⟨hA,hp,h|⟨hq,h⟩⟩)
    ·exact k.2 _ _ m (.inl (k.1 _ _ m (.inl h)))
    ·exact k.2 _ _ m (.inl (k.1 _ _ m (.inr ⟨h,by simp[hA,hp]⟩)))
    ·exact k.2 _ _ m (.inr ⟨h,by simp[hA,hp,hq]⟩)
   rcases h with h|⟨h,hA⟩
   ·exact .inl (key (.inl h))
   ·rw[aU.goF]at h;rcases h with h|h
    ·exact .inl (key (.inr ⟨hA,h⟩))
    ·exact .inr ⟨h,hA⟩
 have gG:∀(l:List (ByteArray×List Int×Stx)),(∀x∈l,∀A w m,(m∈w.free∨(aU x.2.2 m∧m∉A))→m∈(aZ tk sb A x.2.2 w).2.free)→∀w,(m∈w.free∨(aU.goG l m∧m∉A))→m∈(aZ.goG tk sb A l w).2.free:=by
  intro l;induction l with
  |nil=>intro _ w h;rw[aZ.goG];exact h.elim id fun h=>by simp[aU.goG]at h
  |cons x l ih=>
   obtain⟨s,q,y⟩:=x;intro hi w h;rw[aZ.goG];have k:=hi (s,q,y) (by simp);refine ih (fun y hy=>hi y (by simp[hy])) _ ?_;rcases h with h|⟨h,hA⟩
   ·exact .inl (k (A++q) (aY q.length w) m (.inl h))
   ·rw[aU.goG]at h;rcases h with⟨hq,h⟩|h
    ·exact .inl (k (A++q) (aY q.length w) m (.inr ⟨h,by simp[hA,hq]⟩))
    ·exact .inr ⟨h,hA⟩
 rw[aZ];refine gG gs i3 _ ?_;rw[aU]at h;have up:m∈w.free∨(m∉A∧((∃t∈ts,oG t m)∨(∃v∈vs,cB v.s.t m)∨aU.goS ss m∨aU.goF fs m))→m∈(aZ.goF tk sb A fs (aZ.goS tk sb A ss (aH (cH tk sb A) vs (aH (bY tk sb A) ts w).2).2).2).2.free:=by
  have hT:=zd6 (P:=fun t m=>oG t m∧m∉A) (f:=bY tk sb A) (l:=ts) (fun t _ w m h=>jQ8 t w m h) w m;have hV:=zd6 (P:=fun(v:Vam) m=>cB v.s.t m∧m∉A) (f:=cH tk sb A) (l:=vs) (fun v _ w m h=>yB v.s.t w m h) (aH (bY tk sb A) ts w).2 m;rintro(h|⟨hA,⟨t,ht,h⟩|⟨v,hv,h⟩|h|h⟩)
  ·exact gF fs i2 _ (.inl (gS ss i1 _ (.inl (hV (.inl (hT (.inl h)))))))
  ·exact gF fs i2 _ (.inl (gS ss i1 _ (.inl (hV (.inl (hT (.inr ⟨t,ht,h,hA⟩)))))))
  ·exact gF fs i2 _ (.inl (gS ss i1 _ (.inl (hV (.inr ⟨v,hv,h,hA⟩)))))
  ·exact gF fs i2 _ (.inl (gS ss i1 _ (.inr ⟨h,hA⟩)))
  ·exact gF fs i2 _ (.inr ⟨h,hA⟩)
 rcases h with h|⟨h,hA⟩
 ·exact .inl (up (.inl h))
 ·rcases h with h|h|h|h|h
  ·exact .inl (up (.inr ⟨hA,.inl h⟩))
  ·exact .inl (up (.inr ⟨hA,.inr (.inl h)⟩))
  ·exact .inl (up (.inr ⟨hA,.inr (.inr (.inl h))⟩))
  ·exact .inl (up (.inr ⟨hA,.inr (.inr (.inr h))⟩))
  ·exact .inr ⟨h,hA⟩
end Go.Vt.Al
