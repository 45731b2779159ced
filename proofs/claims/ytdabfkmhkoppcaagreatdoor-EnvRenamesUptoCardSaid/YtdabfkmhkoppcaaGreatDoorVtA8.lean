import Derived.Test.YtdabfkmhkoppcaaGreatDoorVtA1
import GoSem.Op.String
set_option linter.all false
set_option maxRecDepth 100000
open Int renaming le_refl→km9,le_trans→km0,lt_or_le→kq6
open List renaming append_assoc→kf1,append_nil→ki0,concat_eq_append→ku8,drop_zero→kj7,eq_nil_or_concat→ku7,eq_of_mem_replicate→ko5,filter_append→ko1,filter_cons_of_neg→kn2,filter_cons_of_pos→kk3,filter_eq_nil_iff→kq7,foldl_cons→kq5,getD_eq_getElem?_getD→kj0,getElem?_append_left→kf7,getElem?_append_right→kf4,getElem?_cons_zero→kf5,getElem?_drop→kj1,getElem?_eq_getElem→ke7,getElem?_eq_none→km6,getElem?_eq_some_iff→kd6,getElem?_of_mem→kk9,getElem?_replicate_of_lt→ks8,getElem?_replicate→ko7,getElem?_set_ne→kh7,getElem?_set_self→kl8,getElem?_take_of_lt→kg4,length_append→ke1,length_nil→kg0,length_take→kg2,map_cons→ke5,mem_append→kh1,mem_cons→kg9,mem_filter→ku2,mem_of_getElem?→kd7,mem_of_mem_take→kk1,mem_or_eq_of_mem_set→kj8,mem_reverse→kq0,mem_singleton→ki8,nil_append→kh0,pairwise_cons→km8,pairwise_singleton→kq4,reverse_cons→km4,reverse_reverse→ko4
open Nat renaming add_sub_cancel_left→kj9,lt_or_ge→kf3
namespace Go.Vt.Al
structure PI (a b:Nat) (p:Nat→Nat→Prop):Prop where
 lt:∀i j,p i j→i<a∧j<b
 fn:∀i j k,p i j→p i k→j=k
 inj:∀i j k,p i k→p j k→i=j
def ext (a b:Nat) (p q:Nat→Nat→Prop) (i j:Nat):Prop:=p i j∨∃u v,i=a+u∧j=b+v∧q u v
def cmp (p q:Nat→Nat→Prop) (j k:Nat):Prop:=∃i,p i j∧q i k
theorem PI.ext {a b c d:Nat} {p q:Nat→Nat→Prop} (h:PI a b p) (g:PI c d q):PI (a+c) (b+d) (ext a b p q):=by
 refine⟨?_,?_,?_⟩
 ·rintro i j (e|⟨u,v,rfl,rfl,e⟩)
  ·have:=h.lt i j e;omega
  ·have:=g.lt u v e;omega
 ·rintro i j k (e|⟨u,v,rfl,rfl,e⟩) (e2|⟨u2,v2,h1,rfl,e2⟩)
  ·exact h.fn i j k e e2
  ·have:=h.lt i j e;omega
  ·have:=h.lt _ _ e2;omega
  ·obtain rfl:u=u2:=by omega
   have:=g.fn u v v2 e e2;omega
 ·rintro i j k (e|⟨u,v,rfl,rfl,e⟩) (e2|⟨u2,v2,rfl,h1,e2⟩)
  ·exact h.inj i j k e e2
  ·have:=h.lt _ _ e;omega
  ·have:=h.lt _ _ e2;omega
  ·obtain rfl:v=v2:=by omega
   have:=g.inj u u2 v e e2;omega
theorem PI.cmp {a b c:Nat} {p q:Nat→Nat→Prop} (h:PI a b p) (g:PI a c q):PI b c (cmp p q):=by
 refine⟨?_,?_,?_⟩
 ·rintro j k ⟨i,h1,h2⟩;exact⟨(h.lt i j h1).2,(g.lt i k h2).2⟩
 ·rintro j k l ⟨i,h1,h2⟩ ⟨i',h3,h4⟩;obtain rfl:=h.inj i i' j h1 h3;exact g.fn i k l h2 h4
 ·rintro j k l ⟨i,h1,h2⟩ ⟨i',h3,h4⟩;obtain rfl:=g.inj i i' l h2 h4;exact h.fn i j k h1 h3
theorem zd7 {a b c a' b' c':Nat} {p q p1 q1:Nat→Nat→Prop} (h:PI a b p) (g:PI a c q) (h1:PI a' b' p1) (g1:PI a' c' q1):cmp (ext a b p p1) (ext a c q q1)=ext b c (cmp p q) (cmp p1 q1):=by
 funext j k;apply propext;constructor
 ·rintro⟨i,e|⟨u,v,rfl,rfl,e⟩,e2|⟨u2,v2,e3,rfl,e2⟩⟩
  ·exact .inl ⟨i,e,e2⟩
  ·have:=h.lt _ _ e;omega
  ·have:=g.lt _ _ e2;omega
  ·obtain rfl:u=u2:=by omega
   exact .inr ⟨v,v2,rfl,rfl,u,e,e2⟩
 ·rintro(⟨i,e,e2⟩|⟨v,v2,rfl,rfl,u,e,e2⟩)
  ·exact⟨i,.inl e,.inl e2⟩
  ·exact⟨a+u,.inr ⟨u,v,rfl,rfl,e⟩,.inr ⟨u,v2,rfl,rfl,e2⟩⟩
def lg (σ:Int→Int) (A B:List Int) (p:Nat→Nat→Prop) (n m:Int):Prop:=
 (∃i j,cE A n=some i∧cE B m=some j∧p i j)∨(cE A n=none∧cE B m=none∧m=σ n)
def eE (σ:Int→Int) (A B:List Int) (p:Nat→Nat→Prop):Ty→Ty→Prop
 |.mk k n l,.mk k' n' l'=>k=k'∧(if k=fK then lg σ A B p n n' else n=n')∧go l l'
 where
 go:List Ty→List Ty→Prop
  |[],l'=>l'=[]
  |t::r,l'=>∃t' r',l'=t'::r'∧eE σ A B p t t'∧go r r'
def uW (σ:Int→Int) (A B:List Int) (p:Nat→Nat→Prop) (c c':Ct):Prop:=c.name=c'.name∧eE.go σ A B p c.args c'.args
def oH (σ:Int→Int) (A B:List Int) (p:Nat→Nat→Prop) (m m':Tym):Prop:=m.name=m'.name∧eE σ A B p m.t m'.t∧cV (uW σ A B p) m.cts m'.cts
def oI (σ:Int→Int) (A B:List Int) (p:Nat→Nat→Prop) (m m':Vam):Prop:=m.name=m'.name∧m.s.gens=m'.s.gens∧eE σ A B p m.s.t m'.s.t
def aV (σ:Int→Int) (A B:List Int) (p:Nat→Nat→Prop):Stx→Stx→Prop
 |.mk ts vs ss fs gs,.mk ts' vs' ss' fs' gs'=>cV (oH σ A B p) ts ts'∧cV (oI σ A B p) vs vs'∧goS A B p ss ss'∧goF A B p fs fs'∧goG A B p gs gs'
 where
 goS (A B:List Int) (p:Nat→Nat→Prop):List (ByteArray×Stx)→List (ByteArray×Stx)→Prop
  |[],r=>r=[]
  |(s,x)::l,r=>∃x' r',r=(s,x')::r'∧aV σ A B p x x'∧goS A B p l r'
 goF (A B:List Int) (p:Nat→Nat→Prop):List (ByteArray×List Int×Stx×List Int×Stx)→List (ByteArray×List Int×Stx×List Int×Stx)→Prop
  |[],r=>r=[]
  |(s,a,x,b,y)::l,r=>∃a' x' b' y' r' p1 p2,r=(s,a',x',b',y')::r'∧PI a.length a'.length p1∧PI b.length b'.length p2∧aV σ (A++a) (B++a') (ext A.length B.length p p1) x x'∧
    aV σ (A++a++b) (B++a'++b') (ext (A++a).length (B++a').length (ext A.length B.length p p1) p2) y y'∧goF A B p l r'
 goG (A B:List Int) (p:Nat→Nat→Prop):List (ByteArray×List Int×Stx)→List (ByteArray×List Int×Stx)→Prop
  |[],r=>r=[]
  |(s,b,y)::l,r=>∃b' y' r' p2,r=(s,b',y')::r'∧PI b.length b'.length p2∧aV σ (A++b) (B++b') (ext A.length B.length p p2) y y'∧goG A B p l r'
def pJ (σ:Int→Int) (a b:List Int×Stx):Prop:=∃p,PI a.1.length b.1.length p∧aV σ a.1 b.1 p a.2 b.2
theorem jR0 {σ:Int→Int} {A B C:List Int} {p q:Nat→Nat→Prop} {n m k:Int} (h:lg σ A B p n m) (g:lg σ A C q n k):lg id B C (cmp p q) m k:=by
 rcases h with⟨i,j,e1,e2,e3⟩|⟨e1,e2,rfl⟩<;>rcases g with⟨i',j',g1,g2,g3⟩|⟨g1,g2,rfl⟩
 ·rw[e1]at g1;cases g1;exact .inl ⟨j,j',e2,g2,i,e3,g3⟩
 ·rw[e1]at g1;cases g1
 ·rw[e1]at g1;cases g1
 ·exact .inr ⟨e2,g2,rfl⟩
theorem zC4 {σ:Int→Int} {A B C:List Int} {p q:Nat→Nat→Prop}:∀(t t' t'':Ty),eE σ A B p t t'→eE σ A C q t t''→eE id B C (cmp p q) t' t'':=by
 intro t;induction t using Ty.ind with
 |h k n l ih=>
 rintro⟨k',n',l'⟩ ⟨k'',n'',l''⟩ ⟨rfl,hn,hl⟩ ⟨rfl,gn,gl⟩;have hg:∀(l:List Ty),(∀t∈l,∀t' t'',eE σ A B p t t'→eE σ A C q t t''→eE id B C (cmp p q) t' t'')→∀l' l'',eE.go σ A B p l l'→eE.go σ A C q l l''→eE.go id B C (cmp p q) l' l'':=by
  intro l;induction l with
  |nil=>rintro _ _ _ h g;cases h;cases g;rfl
  |cons t r ih2=>
   rintro hi _ _ ⟨t',r',rfl,h1,h2⟩ ⟨t'',r'',rfl,g1,g2⟩;exact⟨_,_,rfl,hi t (by simp) _ _ h1 g1,ih2 (fun t ht=>hi t (by simp[ht])) _ _ h2 g2⟩
 refine⟨rfl,?_,hg l ih _ _ hl gl⟩;by_cases hk:k=fK
 ·rw[if_pos hk]at hn gn ⊢;exact jR0 hn gn
 ·rw[if_neg hk]at hn gn ⊢;rw[←hn,gn]
theorem z06 {σ:Int→Int} {A B C:List Int} {p q:Nat→Nat→Prop}:∀(l l' l'':List Ty),eE.go σ A B p l l'→eE.go σ A C q l l''→eE.go id B C (cmp p q) l' l''
 |[],_,_,h,g=>by cases h;cases g;rfl
 |t::r,_,_,⟨t',r',rfl,h1,h2⟩,⟨t'',r'',rfl,g1,g2⟩=>⟨_,_,rfl,zC4 t _ _ h1 g1,z06 r _ _ h2 g2⟩
theorem zd8 {α:Type} {R Q T:α→α→Prop}:∀{l l' l'':List α},(∀a∈l,∀b c,R a b→Q a c→T b c)→cV R l l'→cV Q l l''→cV T l' l''
 |[],[],[],_,_,_=>trivial
 |a::l,b::l',c::l'',h,⟨h1,h2⟩,⟨g1,g2⟩=>⟨h a (by simp) b c h1 g1,zd8 (fun x hx=>h x (by simp[hx])) h2 g2⟩
 |[],_::_,_,_,h,_=>h.elim
 |[],[],_::_,_,_,h=>h.elim
 |_::_,[],_,_,h,_=>h.elim
 |_::_,_::_,[],_,_,h=>h.elim
theorem jR1 {σ:Int→Int} {A B C:List Int} {p q:Nat→Nat→Prop} (c c' c'':Ct) (h:uW σ A B p c c') (g:uW σ A C q c c''):uW id B C (cmp p q) c' c'':=⟨h.1▸g.1,z06 _ _ _ h.2 g.2⟩
theorem jR2 {σ:Int→Int} {A B C:List Int} {p q:Nat→Nat→Prop} (c c' c'':Tym) (h:oH σ A B p c c') (g:oH σ A C q c c''):oH id B C (cmp p q) c' c'':=
 ⟨h.1▸g.1,zC4 _ _ _ h.2.1 g.2.1,zd8 (fun a _ b c=>jR1 a b c) h.2.2 g.2.2⟩
theorem jR3 {σ:Int→Int} {A B C:List Int} {p q:Nat→Nat→Prop} (c c' c'':Vam) (h:oI σ A B p c c') (g:oI σ A C q c c''):oI id B C (cmp p q) c' c'':=
 ⟨h.1▸g.1,h.2.1▸g.2.1,zC4 _ _ _ h.2.2 g.2.2⟩
theorem jR4 {σ:Int→Int}:∀(s s' s'':Stx) (A B C:List Int) (p q:Nat→Nat→Prop),PI A.length B.length p→PI A.length C.length q→aV σ A B p s s'→aV σ A C q s s''→aV id B C (cmp p q) s' s'':=by
 intro s;induction s using Stx.ind with
 |h ts vs ss fs gs i1 i2 i3=>
 rintro⟨ts',vs',ss',fs',gs'⟩ ⟨ts'',vs'',ss'',fs'',gs''⟩ A B C p q hp hq h g;rw[aV]at h g;obtain⟨h1,h2,h3,h4,h5⟩:=h;obtain⟨g1,g2,g3,g4,g5⟩:=g;rw[aV];refine⟨zd8 (fun a _ b c=>jR2 a b c) h1 g1,zd8 (fun a _ b c=>jR3 a b c) h2 g2,?_,?_,?_⟩
 ·have key:∀(l:List (ByteArray×Stx)),(∀x∈l,∀(s' s'':Stx) (A B C:List Int) (p q:Nat→Nat→Prop),PI A.length B.length p→PI A.length C.length q→aV σ A B p x.2 s'→aV σ A C q x.2 s''→aV id B C (cmp p q) s' s'')→∀l' l'',aV.goS σ A B p l l'→aV.goS σ A C q l l''→aV.goS id B C (cmp p q) l' l'':=by
   intro l;induction l with
   |nil=>intro _ _ _ h g;rw[aV.goS]at h g;subst h;subst g;rw[aV.goS]
   |cons x l ih=>
    obtain⟨s,x⟩:=x;intro hi l' l'' h g;rw[aV.goS]at h g;obtain⟨x',r',rfl,h1,h2⟩:=h;obtain⟨x'',r'',rfl,g1,g2⟩:=g;rw[aV.goS];exact⟨_,_,rfl,hi (s,x) (by simp) _ _ _ _ _ _ _ hp hq h1 g1,ih (fun y hy=>hi y (by simp[hy])) _ _ h2 g2⟩
  exact key ss i1 _ _ h3 g3
 ·have key:∀(l:List (ByteArray×List Int×Stx×List Int×Stx)),(∀x∈l,(∀(s' s'':Stx) (A B C:List Int) (p q:Nat→Nat→Prop),PI A.length B.length p→PI A.length C.length q→aV σ A B p x.2.2.1 s'→aV σ A C q x.2.2.1 s''→aV id B C (cmp p q) s' s'')∧
    (∀(s' s'':Stx) (A B C:List Int) (p q:Nat→Nat→Prop),PI A.length B.length p→PI A.length C.length q→aV σ A B p x.2.2.2.2 s'→aV σ A C q x.2.2.2.2 s''→aV id B C (cmp p q) s' s''))→∀l' l'',aV.goF σ A B p l l'→aV.goF σ A C q l l''→aV.goF id B C (cmp p q) l' l'':=by
   intro l;induction l with
   |nil=>intro _ _ _ h g;rw[aV.goF]at h g;subst h;subst g;rw[aV.goF]
   |cons x l ih=>
    obtain⟨s,a,x,b,y⟩:=x;intro hi l' l'' h g;rw[aV.goF]at h g;obtain⟨a',x',b',y',r',p1,p2,rfl,hp1,hp2,h1,h2,h3⟩:=h;obtain⟨a'',x'',b'',y'',r'',q1,q2,rfl,hq1,hq2,g1,g2,g3⟩:=g;have k:=hi (s,a,x,b,y) (by simp);rw[aV.goF];have hpa:PI (A++a).length (B++a').length (ext A.length B.length p p1):=by rw[ke1,ke1];exact hp.ext hp1
    have hqa:PI (A++a).length (C++a'').length (ext A.length C.length q q1):=by rw[ke1,ke1];exact hq.ext hq1
    have hpb:PI (A++a++b).length (B++a'++b').length (ext (A++a).length (B++a').length (ext A.length B.length p p1) p2):=by rw[ke1,ke1 («as»:=B++a')];exact hpa.ext hp2
    have hqb:PI (A++a++b).length (C++a''++b'').length (ext (A++a).length (C++a'').length (ext A.length C.length q q1) q2):=by rw[ke1,ke1 («as»:=C++a'')];exact hqa.ext hq2
    have k1:=k.1 _ _ _ _ _ _ _ hpa hqa h1 g1;have k2:=k.2 _ _ _ _ _ _ _ hpb hqb h2 g2;rw[zd7 hp hq hp1 hq1]at k1;rw[zd7 hpa hqa hp2 hq2,zd7 hp hq hp1 hq1]at k2;exact⟨a'',x'',b'',y'',r'',cmp p1 q1,cmp p2 q2,rfl,hp1.cmp hq1,hp2.cmp hq2,k1,k2,ih (fun y hy=>hi y (by simp[hy])) _ _ h3 g3⟩
  exact key fs i2 _ _ h4 g4
 ·have key:∀(l:List (ByteArray×List Int×Stx)),(∀x∈l,∀(s' s'':Stx) (A B C:List Int) (p q:Nat→Nat→Prop),PI A.length B.length p→PI A.length C.length q→aV σ A B p x.2.2 s'→aV σ A C q x.2.2 s''→aV id B C (cmp p q) s' s'')→∀l' l'',aV.goG σ A B p l l'→aV.goG σ A C q l l''→aV.goG id B C (cmp p q) l' l'':=by
   intro l;induction l with
   |nil=>intro _ _ _ h g;rw[aV.goG]at h g;subst h;subst g;rw[aV.goG]
   |cons x l ih=>
    obtain⟨s,b,y⟩:=x;intro hi l' l'' h g;rw[aV.goG]at h g;obtain⟨b',y',r',p2,rfl,hp2,h2,h3⟩:=h;obtain⟨b'',y'',r'',q2,rfl,hq2,g2,g3⟩:=g;rw[aV.goG];have hpb:PI (A++b).length (B++b').length (ext A.length B.length p p2):=by rw[ke1,ke1];exact hp.ext hp2
    have hqb:PI (A++b).length (C++b'').length (ext A.length C.length q q2):=by rw[ke1,ke1];exact hq.ext hq2
    have k2:=hi (s,b,y) (by simp) _ _ _ _ _ _ _ hpb hqb h2 g2;rw[zd7 hp hq hp2 hq2]at k2;exact⟨b'',y'',r'',cmp p2 q2,rfl,hp2.cmp hq2,k2,ih (fun y hy=>hi y (by simp[hy])) _ _ h3 g3⟩
  exact key gs i3 _ _ h5 g5
theorem jR5 {σ:Int→Int} {a b c:List Int×Stx} (h:pJ σ a b) (g:pJ σ a c):pJ id b c:=by
 obtain⟨p,hp,h⟩:=h;obtain⟨q,hq,g⟩:=g;exact⟨cmp p q,hp.cmp hq,jR4 _ _ _ _ _ _ _ _ hp hq h g⟩
def jI:List Int→Prop
 |[]=>True
 |x::l=>(∀y∈l,y<x)∧jI l
theorem z07 {n:Int}:∀{l:List Int},jI l→n∉l→jI (bub n l)
 |[],_,_=>⟨by simp,trivial⟩
 |y::r,⟨h1,h2⟩,hn=>by
  simp only[kg9,not_or]at hn;unfold bub;split
  ·rename_i hlt;refine⟨fun z hz=>?_,z07 h2 hn.2⟩;rcases zC1.1 hz with rfl|hz
   ·exact hlt
   ·exact h1 z hz
  ·rename_i hlt;have:y<n:=by omega
   refine⟨fun z hz=>?_,h1,h2⟩;rcases kg9.1 hz with rfl|hz
   ·exact this
   ·have:=h1 z hz;omega
theorem z08 {l:List Int} {n:Int} (h:jI l.reverse):jI (dS l n).reverse:=by
 unfold dS;split
 ·exact h
 ·rename_i hn;rw[ko4];exact z07 h (by simpa using hn)
theorem zd9:∀{l r:List Int},jI l→jI r→(∀k,k∈l↔k∈r)→l=r
 |[],[],_,_,_=>rfl
 |[],b::r,_,_,h=>by have:=(h b).2 (by simp);cases this
 |a::l,[],_,_,h=>by have:=(h a).1 (by simp);cases this
 |a::l,b::r,⟨h1,h2⟩,⟨g1,g2⟩,h=>by
  have hab:a=b:=by
   have e1:=(h a).1 (by simp);have e2:=(h b).2 (by simp);rcases kg9.1 e1 with e|e
   ·exact e
   ·rcases kg9.1 e2 with f|f
    ·exact f.symm
    ·have:=g1 a e;have:=h1 b f;omega
  subst hab
  congr 1
  refine zd9 h2 g2 fun k=>⟨fun hk=>?_,fun hk=>?_⟩
  ·rcases kg9.1 ((h k).1 (by simp[hk]))with e|e
   ·subst e;have:=h1 k hk;omega
   ·exact e
  ·rcases kg9.1 ((h k).2 (by simp[hk]))with e|e
   ·subst e;have:=g1 k hk;omega
   ·exact e
theorem z09 (l:List Int):∀acc:List Int,jI acc.reverse→jI (l.foldl (fun out k=>if 0≤k then dS out k else out) acc).reverse∧∀k,k∈l.foldl (fun out k=>if 0≤k then dS out k else out) acc↔k∈acc∨(0≤k∧k∈l):=by
 induction l with
 |nil=>intro acc h;exact⟨h,fun k=>by simp⟩
 |cons a l ih=>
  intro acc h;simp only[kq5];split
  ·rename_i ha;obtain⟨g1,g2⟩:=ih _ (z08 (n:=a) h);refine⟨g1,fun k=>?_⟩;rw[g2,zC2];constructor
   ·rintro((rfl|e)|⟨e1,e2⟩)
    ·exact .inr ⟨ha,by simp⟩
    ·exact .inl e
    ·exact .inr ⟨e1,by simp[e2]⟩
   ·rintro(e|⟨e1,e2⟩)
    ·exact .inl (.inr e)
    ·rcases kg9.1 e2 with rfl|e2
     ·exact .inl (.inl rfl)
     ·exact .inr ⟨e1,e2⟩
  ·rename_i ha;obtain⟨g1,g2⟩:=ih _ h;refine⟨g1,fun k=>?_⟩;rw[g2];constructor
   ·rintro(e|⟨e1,e2⟩)
    ·exact .inl e
    ·exact .inr ⟨e1,by simp[e2]⟩
   ·rintro(e|⟨e1,e2⟩)
    ·exact .inl e
    ·rcases kg9.1 e2 with rfl|e2
     ·exact absurd e1 ha
     ·exact .inr ⟨e1,e2⟩
theorem zC5 {l:List Int} {k:Int}:k∈cU l↔0≤k∧k∈l:=by
 have:=(z09 l [] trivial).2 k;simpa[cU]using this
theorem ze0 (l:List Int):jI (cU l).reverse:=(z09 l [] trivial).1
theorem jR6 {l r:List Int} (h:∀k,0≤k→(k∈l↔k∈r)):cU l=cU r:=by
 have:(cU l).reverse=(cU r).reverse:=zd9 (ze0 l) (ze0 r) fun k=>by
  simp only[kq0,zC5];exact⟨fun⟨a,b⟩=>⟨a,(h k a).1 b⟩,fun⟨a,b⟩=>⟨a,(h k a).2 b⟩⟩
 exact List.reverse_inj.1 this
theorem z12:∀{l:List Int},jI l→qW l
 |[],_=>fun i j x hi=>by simp at hi
 |a::l,⟨h1,h2⟩=>by
  intro i j x hi hj;cases i with
  |zero=>
   cases j with
   |zero=>rfl
   |succ j=>
    simp only[kf5,Option.some.injEq]at hi;have:=h1 x (kd7 (by simpa using hj));omega
  |succ i=>
   cases j with
   |zero=>
    simp only[kf5,Option.some.injEq]at hj;have:=h1 x (kd7 (by simpa using hi));omega
   |succ j=>rw[z12 h2 i j x (by simpa using hi) (by simpa using hj)]
theorem jR7 (l:List Int):qW (cU l):=by
 have:=(z12 (ze0 l)).rev
 rwa [ko4]at this
structure SR (a b:Nat) (p:Nat→Nat→Prop) (w w':WS):Prop where
 la:w.nums.length=a
 lb:w'.nums.length=b
 nx:w.next=w'.next
 fr:w.free=w'.free
 eq:∀i j,p i j→w.nums[i]?=w'.nums[j]?
 l:∀i v,w.nums[i]?=some v→0≤v→∃j,p i j
 r:∀j v,w'.nums[j]?=some v→0≤v→∃i,p i j
def Sim {β:Type} (f g:WS→β×WS) (a b:Nat) (p:Nat→Nat→Prop):Prop:=∀w w',SR a b p w w'→(f w).1=(g w').1∧SR a b p (f w).2 (g w').2
section
variable {tk:List Int} {sb:Int→Int} {A B:List Int} {p:Nat→Nat→Prop}
theorem jR8 {n m:Int} (hp:PI A.length B.length p) (h:lg id A B p n m):Sim (cG tk sb A n) (cG tk sb B m) A.length B.length p:=by
 intro w w' hs;unfold cG;rcases h with⟨i,j,e1,e2,e3⟩|⟨e1,e2,rfl⟩
 ·rw[e1,e2];have hij:=hp.lt i j e3;have hi:i<w.nums.length:=by rw[hs.la];omega
  have hj:j<w'.nums.length:=by rw[hs.lb];omega
  have e:=hs.eq i j e3;simp only[kj0,e,hs.nx];split
  ·refine⟨rfl,⟨by simp[hs.la],by simp[hs.lb],rfl,hs.fr,fun i' j' h'=>?_,fun i' v hv h0=>?_,fun j' v hv h0=>?_⟩⟩
   ·by_cases hi':i'=i
    ·subst hi';obtain rfl:=hp.fn _ _ _ e3 h';simp only;rw[kl8 hi,kl8 hj]
    ·have hj':j'≠j:=fun g=>hi' (by subst g;exact hp.inj _ _ _ h' e3);simp only;rw[kh7 (Ne.symm hi'),kh7 (Ne.symm hj')];exact hs.eq i' j' h'
   ·by_cases hi':i'=i
    ·subst hi';exact⟨j,e3⟩
    ·simp only at hv;rw[kh7 (Ne.symm hi')]at hv;exact hs.l i' v hv h0
   ·by_cases hj':j'=j
    ·subst hj';exact⟨i,e3⟩
    ·simp only at hv;rw[kh7 (Ne.symm hj')]at hv;exact hs.r j' v hv h0
  ·exact⟨rfl,hs⟩
 ·rw[e1,e2];exact⟨rfl,hs.la,hs.lb,hs.nx,by simp only[id,hs.fr],hs.eq,hs.l,hs.r⟩
theorem zC6 (hp:PI A.length B.length p):∀(t t':Ty),eE id A B p t t'→Sim (tyF tk sb A t) (tyF tk sb B t') A.length B.length p:=by
 intro t;induction t using Ty.ind with
 |h k n l ih=>
 rintro⟨k',n',l'⟩ ⟨rfl,hn,hl⟩ w w' hs;have hg:∀(l:List Ty),(∀t∈l,∀t',eE id A B p t t'→Sim (tyF tk sb A t) (tyF tk sb B t') A.length B.length p)→∀l',eE.go id A B p l l'→Sim (tyF.go tk sb A l) (tyF.go tk sb B l') A.length B.length p:=by
  intro l;induction l with
  |nil=>rintro _ _ h w w' hs;cases h;exact⟨rfl,hs⟩
  |cons t r ih2=>
   rintro hi _ ⟨t',r',rfl,h1,h2⟩ w w' hs;have k1:=hi t (by simp) t' h1 w w' hs;have k2:=ih2 (fun t ht=>hi t (by simp[ht])) r' h2 _ _ k1.2;simp only[tyF.go];exact⟨by rw[k1.1,k2.1],k2.2⟩
 simp only[tyF];by_cases hk:k=fK
 ·rw[if_pos hk]at hn;simp only[hk,if_true];have k1:=jR8 (tk:=tk) (sb:=sb) hp hn w w' hs;have k2:=hg l ih l' hl _ _ k1.2;exact⟨by rw[k1.1,k2.1],k2.2⟩
 ·rw[if_neg hk]at hn;simp only[hk,if_false];have k2:=hg l ih l' hl _ _ hs;exact⟨by rw[hn,k2.1],k2.2⟩
theorem z13 (hp:PI A.length B.length p):∀(l l':List Ty),eE.go id A B p l l'→Sim (tyF.go tk sb A l) (tyF.go tk sb B l') A.length B.length p
 |[],_,h=>fun w w' hs=>by cases h;exact⟨rfl,hs⟩
 |t::r,_,⟨t',r',rfl,h1,h2⟩=>fun w w' hs=>by
  have k1:=zC6 (tk:=tk) (sb:=sb) hp t t' h1 w w' hs;have k2:=z13 hp r r' h2 _ _ k1.2;simp only[tyF.go];exact⟨by rw[k1.1,k2.1],k2.2⟩
theorem ze1 {α β:Type} {f g:α→WS→β×WS} {R:α→α→Prop} {a b:Nat} (hf:∀x y,R x y→Sim (f x) (g y) a b p):∀(l r:List α),cV R l r→Sim (aH f l) (aH g r) a b p
 |[],[],_=>fun w w' hs=>⟨rfl,hs⟩
 |x::l,y::r,⟨h1,h2⟩=>fun w w' hs=>by
  have k1:=hf x y h1 w w' hs;have k2:=ze1 hf l r h2 _ _ k1.2;simp only[aH];exact⟨by rw[k1.1,k2.1],k2.2⟩
 |[],_::_,h=>h.elim
 |_::_,[],h=>h.elim
theorem jR9 (hp:PI A.length B.length p) (c c':Ct) (h:uW id A B p c c'):Sim (ctF tk sb A c) (ctF tk sb B c') A.length B.length p:=fun w w' hs=>by
 have k1:=z13 (tk:=tk) (sb:=sb) hp _ _ h.2 w w' hs;simp only[ctF];exact⟨by rw[k1.1,h.1],k1.2⟩
theorem jS0 (hp:PI A.length B.length p) (c c':Tym) (h:oH id A B p c c'):Sim (bY tk sb A c) (bY tk sb B c') A.length B.length p:=fun w w' hs=>by
 have k1:=zC6 (tk:=tk) (sb:=sb) hp _ _ h.2.1 w w' hs;have k2:=ze1 (jR9 (tk:=tk) (sb:=sb) hp) _ _ h.2.2 _ _ k1.2;simp only[bY];exact⟨by rw[k1.1,k2.1,h.1],k2.2⟩
theorem jS1 (hp:PI A.length B.length p) (c c':Vam) (h:oI id A B p c c'):Sim (cH tk sb A c) (cH tk sb B c') A.length B.length p:=fun w w' hs=>by
 have k1:=zC6 (tk:=tk) (sb:=sb) hp _ _ h.2.2 w w' hs;simp only[cH];exact⟨by rw[k1.1,h.1,h.2.1],k1.2⟩
end
theorem SR.enter {a b c d:Nat} {p q:Nat→Nat→Prop} {w w':WS} (hp:PI a b p) (hq:PI c d q) (hs:SR a b p w w'):SR (a+c) (b+d) (ext a b p q) (aY c w) (aY d w'):=by
 refine⟨by simp[aY,hs.la],by simp[aY,hs.lb],hs.nx,hs.fr,?_,?_,?_⟩
 ·rintro i j (e|⟨u,v,rfl,rfl,e⟩)
  ·have:=hp.lt i j e;simp only[aY];rw[kf7 (by rw[hs.la];omega),kf7 (by rw[hs.lb];omega)];exact hs.eq i j e
  ·have:=hq.lt u v e;simp only[aY];rw[kf4 (by rw[hs.la];omega),kf4 (by rw[hs.lb];omega),hs.la,hs.lb,kj9,kj9,ks8 (by omega),ks8 (by omega)]
 ·intro i v hv h0;simp only[aY]at hv;rcases kf3 i w.nums.length with hi|hi
  ·rw[kf7 hi]at hv;obtain⟨j,hj⟩:=hs.l i v hv h0;exact⟨j,.inl hj⟩
  ·rw[kf4 hi,ko7]at hv;split at hv
   ·cases hv;omega
   ·cases hv
 ·intro i v hv h0;simp only[aY]at hv;rcases kf3 i w'.nums.length with hi|hi
  ·rw[kf7 hi]at hv;obtain⟨j,hj⟩:=hs.r i v hv h0;exact⟨j,.inl hj⟩
  ·rw[kf4 hi,ko7]at hv;split at hv
   ·cases hv;omega
   ·cases hv
theorem SR.leave {a b c d:Nat} {p q:Nat→Nat→Prop} {w w':WS} (hp:PI a b p) (hs:SR (a+c) (b+d) (ext a b p q) w w'):SR a b p (dQ a w) (dQ b w')∧cU (w.nums.drop a)=cU (w'.nums.drop b):=by
 refine⟨⟨by simp[dQ,hs.la],by simp[dQ,hs.lb],hs.nx,hs.fr,?_,?_,?_⟩,jR6 fun k h0=>⟨fun hk=>?_,fun hk=>?_⟩⟩
 ·intro i j e;have:=hp.lt i j e;simp only[dQ];rw[kg4 (by omega),kg4 (by omega)];exact hs.eq i j (.inl e)
 ·intro i v hv h0;simp only[dQ]at hv;rcases kf3 i a with hi|hi
  ·rw[kg4 hi]at hv;obtain⟨j,e|⟨u,v,rfl,rfl,e⟩⟩:=hs.l i v hv h0
   ·exact⟨j,e⟩
   ·omega
  ·rw[km6 (by simp;omega)]at hv;cases hv
 ·intro i v hv h0;simp only[dQ]at hv;rcases kf3 i b with hi|hi
  ·rw[kg4 hi]at hv;obtain⟨j,e|⟨u,v,rfl,rfl,e⟩⟩:=hs.r i v hv h0
   ·exact⟨j,e⟩
   ·omega
  ·rw[km6 (by simp;omega)]at hv;cases hv
 ·obtain⟨u,hu⟩:=kk9 hk;rw[kj1]at hu;obtain⟨j,e⟩:=hs.l _ k hu h0;have e2:=hs.eq _ _ e;rw[hu]at e2;rcases e with e|⟨u',v,e3,rfl,e⟩
  ·have:=(hp.lt _ _ e).1;omega
  ·refine kd7 (i:=v) ?_;rw[kj1];exact e2.symm
 ·obtain⟨u,hu⟩:=kk9 hk;rw[kj1]at hu;obtain⟨j,e⟩:=hs.r _ k hu h0;have e2:=hs.eq _ _ e;rw[hu]at e2;rcases e with e|⟨u',v,rfl,e3,e⟩
  ·have:=(hp.lt _ _ e).2;omega
  ·refine kd7 (i:=u') ?_;rw[kj1];exact e2
theorem jS2 (tk:List Int) (sb:Int→Int):∀(s s':Stx) (A B:List Int) (p:Nat→Nat→Prop),PI A.length B.length p→aV id A B p s s'→Sim (aZ tk sb A s) (aZ tk sb B s') A.length B.length p:=by
 intro s;induction s using Stx.ind with
 |h ts vs ss fs gs i1 i2 i3=>
 rintro⟨ts',vs',ss',fs',gs'⟩ A B p hp hst w w' hs;rw[aV]at hst;obtain⟨h1,h2,h3,h4,h5⟩:=hst;have gS:∀(l:List (ByteArray×Stx)),(∀x∈l,∀s' A B p,PI A.length B.length p→aV id A B p x.2 s'→Sim (aZ tk sb A x.2) (aZ tk sb B s') A.length B.length p)→∀l',aV.goS id A B p l l'→Sim (aZ.goS tk sb A l) (aZ.goS tk sb B l') A.length B.length p:=by
  intro l;induction l with
  |nil=>rintro _ _ h w w' hs;rw[aV.goS]at h;cases h;exact⟨rfl,hs⟩
  |cons x r ih=>
   obtain⟨s,x⟩:=x;rintro hi _ hg w w' hs;rw[aV.goS]at hg;obtain⟨x',r',rfl,g1,g2⟩:=hg;have k1:=hi (s,x) (by simp) x' A B p hp g1 w w' hs;have k2:=ih (fun y hy=>hi y (by simp[hy])) r' g2 _ _ k1.2;simp only[aZ.goS];exact⟨by rw[k1.1,k2.1],k2.2⟩
 have gF:∀(l:List (ByteArray×List Int×Stx×List Int×Stx)),(∀x∈l,(∀s' A B p,PI A.length B.length p→aV id A B p x.2.2.1 s'→Sim (aZ tk sb A x.2.2.1) (aZ tk sb B s') A.length B.length p)∧(∀s' A B p,PI A.length B.length p→aV id A B p x.2.2.2.2 s'→Sim (aZ tk sb A x.2.2.2.2) (aZ tk sb B s') A.length B.length p))→
   ∀l',aV.goF id A B p l l'→Sim (aZ.goF tk sb A l) (aZ.goF tk sb B l') A.length B.length p:=by
  intro l;induction l with
  |nil=>rintro _ _ h w w' hs;rw[aV.goF]at h;cases h;exact⟨rfl,hs⟩
  |cons x r ih=>
   obtain⟨s,a,x,b,y⟩:=x;rintro hi _ hg w w' hs;rw[aV.goF]at hg;obtain⟨a',x',b',y',r',p1,p2,rfl,hp1,hp2,g1,g2,g3⟩:=hg;have k:=hi (s,a,x,b,y) (by simp);have hpa:PI (A++a).length (B++a').length (ext A.length B.length p p1):=by rw[ke1,ke1];exact hp.ext hp1
   have hpb:PI (A++a++b).length (B++a'++b').length (ext (A++a).length (B++a').length (ext A.length B.length p p1) p2):=by rw[ke1,ke1 («as»:=B++a')];exact hpa.ext hp2
   have s1:=hs.enter hp hp1;rw[←ke1,←ke1]at s1;have k1:=k.1 x' _ _ _ hpa g1 _ _ s1;have s2:=k1.2.enter hpa hp2;rw[←ke1,←ke1]at s2;have k2:=k.2 y' _ _ _ hpb g2 _ _ s2;have s3:=k2.2;rw[ke1 («as»:=A++a),ke1 («as»:=B++a')]at s3;have s4:=s3.leave hpa;have s5:=s4.1;rw[ke1,ke1]at s5;have s6:=s5.leave hp;have s7:=s4.2;rw[ke1,ke1]at s7;have k3:=ih (fun y hy=>hi y (by simp[hy])) r' g3 _ _ s6.1;simp only[aZ.goF];exact⟨by rw[k1.1,k2.1,k3.1,s7,s6.2],k3.2⟩
 have gG:∀(l:List (ByteArray×List Int×Stx)),(∀x∈l,∀s' A B p,PI A.length B.length p→aV id A B p x.2.2 s'→Sim (aZ tk sb A x.2.2) (aZ tk sb B s') A.length B.length p)→∀l',aV.goG id A B p l l'→Sim (aZ.goG tk sb A l) (aZ.goG tk sb B l') A.length B.length p:=by
  intro l;induction l with
  |nil=>rintro _ _ h w w' hs;rw[aV.goG]at h;cases h;exact⟨rfl,hs⟩
  |cons x r ih=>
   obtain⟨s,b,y⟩:=x;rintro hi _ hg w w' hs;rw[aV.goG]at hg;obtain⟨b',y',r',p2,rfl,hp2,g2,g3⟩:=hg;have hpb:PI (A++b).length (B++b').length (ext A.length B.length p p2):=by rw[ke1,ke1];exact hp.ext hp2
   have s2:=hs.enter hp hp2;rw[←ke1,←ke1]at s2;have k2:=hi (s,b,y) (by simp) y' _ _ _ hpb g2 _ _ s2;have s3:=k2.2;rw[ke1,ke1]at s3;have s4:=s3.leave hp;have k3:=ih (fun y hy=>hi y (by simp[hy])) r' g3 _ _ s4.1;simp only[aZ.goG];exact⟨by rw[k2.1,k3.1,s4.2],k3.2⟩
 have k1:=ze1 (jS0 (tk:=tk) (sb:=sb) hp) _ _ h1 w w' hs;have k2:=ze1 (jS1 (tk:=tk) (sb:=sb) hp) _ _ h2 _ _ k1.2;have k3:=gS ss i1 _ h3 _ _ k2.2;have k4:=gF fs i2 _ h4 _ _ k3.2;have k5:=gG gs i3 _ h5 _ _ k4.2;simp only[aZ];exact⟨by rw[k1.1,k2.1,k3.1,k4.1,k5.1],k5.2⟩
theorem z14:PI 0 0 fun _ _=>False:=⟨fun _ _ h=>h.elim,fun _ _ _ h=>h.elim,fun _ _ _ h=>h.elim⟩
theorem z15 {p:Nat→Nat→Prop}:ext 0 0 (fun _ _=>False) p=p:=by
 funext i j;apply propext;constructor
 ·rintro(h|⟨u,v,rfl,rfl,h⟩)
  ·exact h.elim
  ·simpa using h
 ·intro h;exact .inr ⟨i,j,by omega,by omega,h⟩
theorem z16 {tk:List Int} {sb:Int→Int} {a b:List Int×Stx} (h:pJ id a b) {w:WS} (hw:w.nums=[]):(bU tk sb [] a w).1=(bU tk sb [] b w).1∧(bU tk sb [] a w).2.free=(bU tk sb [] b w).2.free:=by
 obtain⟨p,hp,h⟩:=h;have s0:SR 0 0 (fun _ _=>False) w w:=⟨by simp[hw],by simp[hw],rfl,rfl,fun _ _ h=>h.elim,fun i v hv=>by simp[hw]at hv,fun i v hv=>by simp[hw]at hv⟩;have s1:=s0.enter z14 hp;rw[z15]at s1;simp only[Nat.zero_add]at s1;have k:=jS2 tk sb a.2 b.2 a.1 b.1 p hp h _ _ s1;have s2:SR (0+a.1.length) (0+b.1.length) (ext 0 0 (fun _ _=>False) p) (aZ tk sb a.1 a.2 (aY a.1.length w)).2 (aZ tk sb b.1 b.2 (aY b.1.length w)).2:=by
  rw[z15];simpa using k.2
 have s3:=s2.leave z14;simp only[bU,kh0,kg0];exact⟨by rw[k.1,s3.2],s3.1.fr⟩
theorem jS3 {a b:List Int×Stx} (h:pJ id a b):cR a=cR b:=by unfold cR;exact(z16 h rfl).2
def qS (σ:Int→Int) (A B:List Int) (p:Nat→Nat→Prop) (a b:ByteArray×Stx):Prop:=a.1=b.1∧aV σ A B p a.2 b.2
def qF (σ:Int→Int) (A B:List Int) (p:Nat→Nat→Prop) (a b:ByteArray×List Int×Stx×List Int×Stx):Prop:=
 a.1=b.1∧∃p1 p2,PI a.2.1.length b.2.1.length p1∧PI a.2.2.2.1.length b.2.2.2.1.length p2∧aV σ (A++a.2.1) (B++b.2.1) (ext A.length B.length p p1) a.2.2.1 b.2.2.1∧
  aV σ (A++a.2.1++a.2.2.2.1) (B++b.2.1++b.2.2.2.1) (ext (A++a.2.1).length (B++b.2.1).length (ext A.length B.length p p1) p2) a.2.2.2.2 b.2.2.2.2
def qG (σ:Int→Int) (A B:List Int) (p:Nat→Nat→Prop) (a b:ByteArray×List Int×Stx):Prop:=
 a.1=b.1∧∃p2,PI a.2.1.length b.2.1.length p2∧aV σ (A++a.2.1) (B++b.2.1) (ext A.length B.length p p2) a.2.2 b.2.2
theorem zC7 {σ:Int→Int} {A B:List Int} {p:Nat→Nat→Prop}:∀{l r:List (ByteArray×Stx)},aV.goS σ A B p l r↔cV (qS σ A B p) l r
 |[],[]=>by rw[aV.goS];simp[cV]
 |[],_::_=>by rw[aV.goS];simp[cV]
 |(s,x)::l,[]=>by rw[aV.goS];simp[cV]
 |(s,x)::l,(s',x')::r=>by
  rw[aV.goS];simp only[cV,←zC7 (l:=l) (r:=r),List.cons.injEq,Prod.mk.injEq,qS];constructor
  ·rintro⟨_,_,⟨⟨rfl,rfl⟩,rfl⟩,h1,h2⟩;exact⟨⟨rfl,h1⟩,h2⟩
  ·rintro⟨⟨rfl,h1⟩,h2⟩;exact⟨_,_,⟨⟨rfl,rfl⟩,rfl⟩,h1,h2⟩
theorem zC8 {σ:Int→Int} {A B:List Int} {p:Nat→Nat→Prop}:∀{l r:List (ByteArray×List Int×Stx×List Int×Stx)},aV.goF σ A B p l r↔cV (qF σ A B p) l r
 |[],[]=>by rw[aV.goF];simp[cV]
 |[],_::_=>by rw[aV.goF];simp[cV]
 |(s,a,x,b,y)::l,[]=>by rw[aV.goF];simp[cV]
 |(s,a,x,b,y)::l,(s',a',x',b',y')::r=>by
  rw[aV.goF];simp only[cV,←zC8 (l:=l) (r:=r),List.cons.injEq,Prod.mk.injEq,qF];constructor
  ·rintro⟨_,_,_,_,_,p1,p2,⟨⟨rfl,rfl,rfl,rfl,rfl⟩,rfl⟩,h1,h2,h3,h4,h5⟩;exact⟨⟨rfl,p1,p2,h1,h2,h3,h4⟩,h5⟩
  ·rintro⟨⟨rfl,p1,p2,h1,h2,h3,h4⟩,h5⟩;exact⟨_,_,_,_,_,p1,p2,⟨⟨rfl,rfl,rfl,rfl,rfl⟩,rfl⟩,h1,h2,h3,h4,h5⟩
theorem zC9 {σ:Int→Int} {A B:List Int} {p:Nat→Nat→Prop}:∀{l r:List (ByteArray×List Int×Stx)},aV.goG σ A B p l r↔cV (qG σ A B p) l r
 |[],[]=>by rw[aV.goG];simp[cV]
 |[],_::_=>by rw[aV.goG];simp[cV]
 |(s,b,y)::l,[]=>by rw[aV.goG];simp[cV]
 |(s,b,y)::l,(s',b',y')::r=>by
  rw[aV.goG];simp only[cV,←zC9 (l:=l) (r:=r),List.cons.injEq,Prod.mk.injEq,qG];constructor
  ·rintro⟨_,_,_,p2,⟨⟨rfl,rfl,rfl⟩,rfl⟩,h1,h3,h5⟩;exact⟨⟨rfl,p2,h1,h3⟩,h5⟩
  ·rintro⟨⟨rfl,p2,h1,h3⟩,h5⟩;exact⟨_,_,_,p2,⟨⟨rfl,rfl,rfl⟩,rfl⟩,h1,h3,h5⟩
theorem jS4 {σ:Int→Int} (lt:ByteArray→ByteArray→Bool):∀(s s':Stx) (A B:List Int) (p:Nat→Nat→Prop),aV σ A B p s s'→aV σ A B p (bQ lt s) (bQ lt s'):=by
 intro s;induction s using Stx.ind with
 |h ts vs ss fs gs i1 i2 i3=>
 rintro⟨ts',vs',ss',fs',gs'⟩ A B p hst;rw[aV]at hst;obtain⟨h1,h2,h3,h4,h5⟩:=hst;simp only[bQ];rw[aV];refine⟨yA (fun a b h=>h.1) h1,yA (fun a b h=>h.1) h2,zC7.2 (yA (fun a b h=>h.1) ?_),zC8.2 (yA (fun a b h=>h.1) ?_),zC9.2 (yA (fun a b h=>h.1) ?_)⟩
 ·rw[uS,uS];exact zd4 (fun a ha b h=>⟨h.1,i1 a ha _ _ _ _ h.2⟩) (zC7.1 h3)
 ·rw[uT,uT];exact zd4 (fun a ha b h=>by obtain⟨e,p1,p2,k1,k2,k3,k4⟩:=h;exact⟨e,p1,p2,k1,k2,(i2 a ha).1 _ _ _ _ k3,(i2 a ha).2 _ _ _ _ k4⟩) (zC8.1 h4)
 ·rw[uU,uU];exact zd4 (fun a ha b h=>by obtain⟨e,p2,k2,k4⟩:=h;exact⟨e,p2,k2,i3 a ha _ _ _ _ k4⟩) (zC9.1 h5)
theorem jS5 {lt:ByteArray→ByteArray→Bool} {a b:List Int×Stx} (h:pJ id a b):dW lt a=dW lt b:=by
 unfold dW;rw[jS3 h];obtain⟨p,hp,h⟩:=h;exact(z16 (a:=(a.1,bQ lt a.2)) (b:=(b.1,bQ lt b.2)) ⟨p,hp,jS4 lt _ _ _ _ _ h⟩ rfl).1
theorem yC:∀(n:Nat) {tk:List Int} {k:Int},tk.length≤n→k≤cW tk k∧cW tk k∉tk:=by
 intro n;induction n with
 |zero=>
  intro tk k h;have:tk=[]:=List.length_eq_zero_iff.1 (by omega);subst this;rw[cW,dif_neg (by simp)];exact⟨km9 _,by simp⟩
 |succ n ih=>
  intro tk k h;by_cases hk:k∈tk
  ·have hl:(tk.erase k).length≤n:=by
    rw[List.length_erase_of_mem hk];have:=List.length_pos_of_mem hk;omega
   have g:=ih (k:=k+1) hl;rw[cW,dif_pos hk];refine⟨by omega,fun hc=>g.2 ?_⟩;rw[List.mem_erase_of_ne (by omega)];exact hc
  ·rw[cW,dif_neg hk];exact⟨km9 _,hk⟩
def NOk (tk N:List Int):Prop:=(∀(i j:Nat) (k:Int),N[i]?=some k→N[j]?=some k→0≤k→i=j)∧∀k∈N,0≤k→k∉tk
def WOk (tk:List Int) (w:WS):Prop:=NOk tk w.nums∧(∀k∈w.nums,k<w.next)∧0≤w.next
def nL (w:WS) (N:List Int):Prop:=w.nums.length=N.length∧∀(i:Nat) (k:Int),w.nums[i]?=some k→(0≤k→N[i]?=some k)∧(k<0→∃k',N[i]?=some k'∧(k'<0∨w.next≤k'))
def Le (w w':WS):Prop:=nL w w'.nums∧w.next≤w'.next
def BOk (N B:List Int):Prop:=(∀k,k∈B↔0≤k∧k∈N)∧qW B
def pN (N B:List Int) (i j:Nat):Prop:=∃k:Int,0≤k∧N[i]?=some k∧B[j]?=some k
theorem kb9 {w:WS}:nL w w.nums:=⟨rfl,fun i k h=>⟨fun _=>h,fun h0=>⟨k,h,.inl h0⟩⟩⟩
theorem Le.refl {w:WS}:Le w w:=⟨kb9,km9 _⟩
theorem Le.later {w w':WS} {N:List Int} (h0:0≤w.next) (h:Le w w') (g:nL w' N):nL w N:=by
 refine⟨h.1.1.trans g.1,fun i k hk=>⟨fun hp=>?_,fun hn=>?_⟩⟩
 ·exact(g.2 i k ((h.1.2 i k hk).1 hp)).1 hp
 ·obtain⟨k',hk',hd⟩:=(h.1.2 i k hk).2 hn;rcases kq6 k' 0 with hneg|hpos
  ·obtain⟨k'',e,hd2⟩:=(g.2 i k' hk').2 hneg;exact⟨k'',e,hd2.elim .inl fun h3=>.inr (km0 h.2 h3)⟩
  ·exact⟨k',(g.2 i k' hk').1 hpos,hd⟩
theorem Le.trans {w w' w'':WS} (h0:0≤w.next) (h:Le w w') (g:Le w' w''):Le w w'':=⟨h.later h0 g.1,km0 h.2 g.2⟩
theorem WOk.enter {tk:List Int} {w:WS} {c:Nat} (h:WOk tk w):WOk tk (aY c w):=by
 refine⟨⟨fun i j k hi hj h0=>?_,fun k hk h0=>?_⟩,fun k hk=>?_,h.2.2⟩
 ·have key:∀i:Nat,(w.nums++List.replicate c (-1))[i]?=some k→w.nums[i]?=some k:=by
   intro i hi;rcases kf3 i w.nums.length with hl|hl
   ·rwa [kf7 hl]at hi
   ·rw[kf4 hl,ko7]at hi;split at hi
    ·cases hi;omega
    ·cases hi
  exact h.1.1 i j k (key i hi) (key j hj) h0
 ·rcases kh1.1 hk with hk|hk
  ·exact h.1.2 k hk h0
  ·have:=ko5 hk;omega
 ·rcases kh1.1 hk with hk|hk
  ·exact h.2.1 k hk
  ·have:=ko5 hk;have:=h.2.2;simp only[aY];omega
theorem z17 {l:List Int} {a i:Nat} {k:Int} (h:(l.take a)[i]?=some k):i<a∧l[i]?=some k:=by
 rw[List.getElem?_take]at h;split at h
 ·rename_i hi;exact⟨hi,h⟩
 ·cases h
theorem WOk.leave {tk:List Int} {w:WS} {a:Nat} (h:WOk tk w):WOk tk (dQ a w):=by
 refine⟨⟨fun i j k hi hj h0=>h.1.1 i j k (z17 hi).2 (z17 hj).2 h0,fun k hk h0=>h.1.2 k (kk1 hk) h0⟩,fun k hk=>h.2.1 k (kk1 hk),h.2.2⟩
theorem Le.leave {w w':WS} {c a:Nat} (ha:w.nums.length=a) (h:Le (aY c w) w'):Le w (dQ a w'):=by
 have hl:=h.1.1;simp only[aY,ke1,List.length_replicate]at hl;refine⟨⟨by simp only[dQ,kg2];omega,fun i k hk=>?_⟩,h.2⟩;have hi:i<w.nums.length:=(kd6.1 hk).1;have hk2:(aY c w).nums[i]?=some k:=by
  simp only[aY];rw[kf7 hi];exact hk
 have g:=h.1.2 i k hk2;simp only[dQ];rw[kg4 (by omega)];exact g
theorem jS6 {tk:List Int} {w:WS} {a:Nat} {N:List Int} (hw:WOk tk w) (h:nL (dQ a w) N) (ha:a≤w.nums.length) (hN:NOk tk N):nL w (N++w.nums.drop a)∧NOk tk (N++w.nums.drop a):=by
 have hlen:N.length=a:=by
  have:=h.1;simp only[dQ,kg2]at this;omega
 have get:∀i,a≤i→(N++w.nums.drop a)[i]?=w.nums[i]?:=by
  intro i hi;rw[kf4 (by omega),kj1,hlen]
  congr 1
  omega
 have lo:∀i k,i<a→w.nums[i]?=some k→(dQ a w).nums[i]?=some k:=by
  intro i k hi hk;simp only[dQ];rw[kg4 hi];exact hk
 refine⟨⟨by simp;omega,fun i k hk=>?_⟩,fun i j k hi hj h0=>?_,fun k hk h0=>?_⟩
 ·rcases kf3 i a with hi|hi
  ·have g:=h.2 i k (lo i k hi hk);rw[kf7 (by omega)];exact g
  ·rw[get i hi];exact⟨fun _=>hk,fun hn=>⟨k,hk,.inl hn⟩⟩
 ·have cross:∀i j:Nat,i<a→a≤j→(N++w.nums.drop a)[i]?=some k→(N++w.nums.drop a)[j]?=some k→False:=by
   intro i j hi hj e1 e2;rw[kf7 (by omega)]at e1;rw[get j hj]at e2;have hil:i<w.nums.length:=by omega
   have e3:w.nums[i]?=some w.nums[i]:=ke7 hil;have g:=h.2 i _ (lo i _ hi e3);rcases kq6 w.nums[i] 0 with hn|hp
   ·obtain⟨k',e4,hd⟩:=g.2 hn;rw[e1]at e4;cases e4;rcases hd with hd|hd
    ·omega
    ·have:=hw.2.1 k (kd7 e2);simp only[dQ]at hd;omega
   ·have e4:=g.1 hp;rw[e1]at e4;have e5:w.nums[i]=k:=(Option.some.inj e4).symm;rw[e5]at e3;have:=hw.1.1 i j k e3 e2 h0;omega
  rcases kf3 i a with hia|hia<;>rcases kf3 j a with hja|hja
  ·rw[kf7 (by omega)]at hi hj;exact hN.1 i j k hi hj h0
  ·exact(cross i j hia hja hi hj).elim
  ·exact(cross j i hja hia hj hi).elim
  ·rw[get i hia]at hi;rw[get j hja]at hj;exact hw.1.1 i j k hi hj h0
 ·rcases kh1.1 hk with hk|hk
  ·exact hN.2 k hk h0
  ·exact hw.1.2 k (List.mem_of_mem_drop hk) h0
theorem NOk.right {tk N M:List Int} (h:NOk tk (N++M)):NOk tk M:=by
 refine⟨fun i j k hi hj h0=>?_,fun k hk h0=>h.2 k (by simp[hk]) h0⟩;have e:∀i:Nat,(N++M)[N.length+i]?=M[i]?:=fun i=>by rw[kf4 (by omega)];congr 1;omega
 have:=h.1 (N.length+i) (N.length+j) k (by rw[e];exact hi) (by rw[e];exact hj) h0;omega
theorem pK (M:List Int):BOk M (cU M):=⟨fun _=>zC5,jR7 M⟩
theorem NOk.cross {tk N M:List Int} (h:NOk tk (N++M)) {i j:Nat} {k:Int} (hi:N[i]?=some k) (hj:M[j]?=some k) (h0:0≤k):False:=by
 have li:=(kd6.1 hi).1;have:=h.1 i (N.length+j) k (by rw[kf7 li];exact hi) (by rw[kf4 (by omega),kj9];exact hj) h0;omega
theorem BOk.app {tk N M B C:List Int} (h:NOk tk (N++M)) (hb:BOk N B) (hc:BOk M C):BOk (N++M) (B++C):=by
 refine⟨fun k=>?_,fun i j x hi hj=>?_⟩
 ·simp only[kh1,hb.1,hc.1];constructor
  ·rintro(⟨a,b⟩|⟨a,b⟩)
   ·exact⟨a,.inl b⟩
   ·exact⟨a,.inr b⟩
  ·rintro⟨a,b|b⟩
   ·exact .inl ⟨a,b⟩
   ·exact .inr ⟨a,b⟩
 ·have cross:∀i j:Nat,B[i]?=some x→C[j]?=some x→False:=by
   intro i j e1 e2;have m1:=(hb.1 x).1 (kd7 e1);have m2:=(hc.1 x).1 (kd7 e2);obtain⟨u,hu⟩:=kk9 m1.2;obtain⟨v,hv⟩:=kk9 m2.2;exact h.cross hu hv m1.1
  rcases kf3 i B.length with hib|hib<;>rcases kf3 j B.length with hjb|hjb
  ·rw[kf7 hib]at hi;rw[kf7 hjb]at hj;exact hb.2 i j x hi hj
  ·rw[kf7 hib]at hi;rw[kf4 hjb]at hj;exact(cross _ _ hi hj).elim
  ·rw[kf4 hib]at hi;rw[kf7 hjb]at hj;exact(cross _ _ hj hi).elim
  ·rw[kf4 hib]at hi;rw[kf4 hjb]at hj;have:=hc.2 _ _ x hi hj;omega
theorem ze2 {tk N B:List Int} (h:NOk tk N) (hb:BOk N B):PI N.length B.length (pN N B):=by
 refine⟨?_,?_,?_⟩
 ·rintro i j ⟨k,_,e1,e2⟩;exact⟨(kd6.1 e1).1,(kd6.1 e2).1⟩
 ·rintro i j l ⟨k,_,e1,e2⟩ ⟨k',_,e3,e4⟩;rw[e1]at e3;cases e3;exact hb.2 j l k e2 e4
 ·rintro i j l ⟨k,h0,e1,e2⟩ ⟨k',_,e3,e4⟩;rw[e2]at e4;cases e4;exact h.1 i j k e1 e3 h0
theorem zD0 {tk N M B C:List Int} (h:NOk tk (N++M)) (hb:BOk N B) (hc:BOk M C):ext N.length B.length (pN N B) (pN M C)=pN (N++M) (B++C):=by
 funext i j;apply propext;constructor
 ·rintro(⟨k,h0,e1,e2⟩|⟨u,v,rfl,rfl,k,h0,e1,e2⟩)
  ·exact⟨k,h0,by rw[kf7 (kd6.1 e1).1];exact e1,by rw[kf7 (kd6.1 e2).1];exact e2⟩
  ·exact⟨k,h0,by rw[kf4 (by omega),kj9];exact e1,by rw[kf4 (by omega),kj9];exact e2⟩
 ·rintro⟨k,h0,e1,e2⟩;rcases kf3 i N.length with hi|hi<;>rcases kf3 j B.length with hj|hj
  ·rw[kf7 hi]at e1;rw[kf7 hj]at e2;exact .inl ⟨k,h0,e1,e2⟩
  ·rw[kf7 hi]at e1;rw[kf4 hj]at e2;obtain⟨v,hv⟩:=kk9 ((hc.1 k).1 (kd7 e2)).2;exact(h.cross e1 hv h0).elim
  ·rw[kf4 hi]at e1;rw[kf7 hj]at e2;obtain⟨v,hv⟩:=kk9 ((hb.1 k).1 (kd7 e2)).2;exact(h.cross hv e1 h0).elim
  ·rw[kf4 hi]at e1;rw[kf4 hj]at e2;exact .inr ⟨_,_,by omega,by omega,k,h0,e1,e2⟩
def Out {β:Type} (tk:List Int) (a:Nat) (f:WS→β×WS) (R:List Int→List Int→β→Prop):Prop:=
 ∀w,w.nums.length=a→WOk tk w→Le w (f w).2∧WOk tk (f w).2∧∀N B,nL (f w).2 N→NOk tk N→BOk N B→R N B (f w).1
theorem Le.len {w w':WS} (h:Le w w'):w'.nums.length=w.nums.length:=h.1.1.symm
theorem Out.two {β γ δ:Type} {tk:List Int} {a:Nat} {f:WS→β×WS} {g:WS→γ×WS} {R:List Int→List Int→β→Prop} {Q:List Int→List Int→γ→Prop} (hf:Out tk a f R) (hg:Out tk a g Q) (mk:β→γ→δ) {T:List Int→List Int→δ→Prop}
  (hT:∀N B x y,N.length=a→R N B x→Q N B y→T N B (mk x y)):Out tk a (fun w=>(mk (f w).1 (g (f w).2).1,(g (f w).2).2)) T:=by
 intro w hw hok;obtain⟨h1,h2,h3⟩:=hf w hw hok;obtain⟨g1,g2,g3⟩:=hg (f w).2 (by rw[h1.len,hw]) h2;refine⟨h1.trans hok.2.2 g1,g2,fun N B hl hN hB=>hT N B _ _ ?_ (h3 N B (g1.later h2.2.2 hl) hN hB) (g3 N B hl hN hB)⟩;rw[←hl.1,g1.len,h1.len,hw]
theorem kc9 {β:Type} {tk:List Int} {a:Nat} {x:β} {R:List Int→List Int→β→Prop} (h:∀N B,N.length=a→R N B x):Out tk a (fun w=>(x,w)) R:=fun w hw hok=>⟨Le.refl,hok,fun N B hl _ _=>h N B (by rw[←hl.1,hw])⟩
theorem Out.imp {β:Type} {tk:List Int} {a:Nat} {f:WS→β×WS} {R Q:List Int→List Int→β→Prop} (h:Out tk a f R) (hi:∀N B x,R N B x→Q N B x):Out tk a f Q:=fun w hw hok=>by
 obtain⟨h1,h2,h3⟩:=h w hw hok;exact⟨h1,h2,fun N B a b c=>hi N B _ (h3 N B a b c)⟩
section
variable {tk:List Int} {sb:Int→Int} {A:List Int}
theorem jS7 {n:Int} (hF:n∉A→sb n∈tk):Out tk A.length (cG tk sb A n) (fun N B m=>lg sb A B (pN N B) n m):=by
 intro w hw hok;unfold cG;cases e:cE A n with
 |none=>
  simp only;refine⟨⟨kb9,km9 _⟩,hok,fun N B hl hN hB=>.inr ⟨e,?_,rfl⟩⟩;refine kL.2 fun hc=>?_;have h1:=(hB.1 (sb n)).1 hc;exact hN.2 _ h1.2 h1.1 (hF (kL.1 e))
 |some i=>
  have hi:i<w.nums.length:=by rw[hw];exact sP e
  have he:w.nums[i]?=some w.nums[i]:=ke7 hi;have hd:w.nums.getD i 0=w.nums[i]:=by rw[kj0,he];rfl
  have fin:∀(N B:List Int) (k:Int),0≤k→N[i]?=some k→BOk N B→lg sb A B (pN N B) n k:=by
   intro N B k h0 hk hB;have hm:k∈B:=(hB.1 k).2 ⟨h0,kd7 hk⟩;cases e2:cE B k with
   |none=>exact absurd hm (kL.1 e2)
   |some j=>exact .inl ⟨i,j,e,e2,k,h0,hk,(lO.1 e2).1⟩
  simp only[hd];split
  ·rename_i hneg;obtain⟨s1,s2⟩:=yC _ (Nat.le_refl _) (tk:=tk) (k:=w.next);have hge:0≤cW tk w.next:=km0 hok.2.2 s1;refine⟨⟨⟨by simp,fun i' k hk=>?_⟩,by simp only;omega⟩,⟨⟨fun i' j' k h1 h2 h0=>?_,fun k hk h0=>?_⟩,fun k hk=>?_,by simp only;omega⟩,fun N B hl hN hB=>?_⟩
   ·by_cases hi':i'=i
    ·subst hi';rw[he]at hk;cases hk;simp only;rw[kl8 hi];exact⟨fun h=>by omega,fun _=>⟨_,rfl,.inr s1⟩⟩
    ·simp only;rw[kh7 (Ne.symm hi')];exact⟨fun _=>hk,fun h=>⟨k,hk,.inl h⟩⟩
   ·simp only at h1 h2;have old:∀j:Nat,j≠i→(w.nums.set i (cW tk w.next))[j]?=some k→w.nums[j]?=some k∧k<w.next:=by
     intro j hj h;rw[kh7 (Ne.symm hj)]at h;exact⟨h,hok.2.1 k (kd7 h)⟩
    by_cases hi':i'=i<;>by_cases hj':j'=i
    ·omega
    ·subst hi';rw[kl8 hi]at h1;have:=Option.some.inj h1;have:=(old j' hj' h2).2;omega
    ·subst hj';rw[kl8 hi]at h2;have:=Option.some.inj h2;have:=(old i' hi' h1).2;omega
    ·exact hok.1.1 i' j' k (old i' hi' h1).1 (old j' hj' h2).1 h0
   ·rcases kj8 hk with hk|rfl
    ·exact hok.1.2 k hk h0
    ·exact s2
   ·rcases kj8 hk with hk|rfl
    ·have:=hok.2.1 k hk;simp only;omega
    ·simp only;omega
   ·refine fin N B _ hge ?_ hB;have:=hl.2 i (cW tk w.next) (by simp only;rw[kl8 hi]);exact this.1 hge
  ·rename_i hneg;refine⟨Le.refl,hok,fun N B hl hN hB=>fin N B _ (by omega) ((hl.2 i _ he).1 (by omega)) hB⟩
theorem zD1:∀t:Ty,(∀n,cB t n→n∉A→sb n∈tk)→Out tk A.length (tyF tk sb A t) (fun N B t'=>eE sb A B (pN N B) t t'):=by
 intro t;induction t using Ty.ind with
 |h k n l ih=>
 intro hF;have hg:∀(l:List Ty),(∀t∈l,(∀n,cB t n→n∉A→sb n∈tk)→Out tk A.length (tyF tk sb A t) (fun N B t'=>eE sb A B (pN N B) t t'))→(∀n,cB.go l n→n∉A→sb n∈tk)→Out tk A.length (tyF.go tk sb A l) (fun N B l'=>eE.go sb A B (pN N B) l l'):=by
  intro l;induction l with
  |nil=>intro _ _;exact kc9 fun N B _=>rfl
  |cons t r ih2=>
   intro hi hF;exact(hi t (by simp) fun n hn=>hF n (.inl hn)).two (ih2 (fun t ht=>hi t (by simp[ht])) fun n hn=>hF n (.inr hn)) (fun x y=>x::y) fun N B x y _ h1 h2=>⟨x,y,rfl,h1,h2⟩
 have hg2:=hg l ih fun n hn=>hF n (.inr hn);by_cases hk:k=fK
 ·have h1:=(jS7 (hF n (.inl ⟨hk,rfl⟩))).two hg2 (fun m l=>Ty.mk k m l) (T:=fun N B t'=>eE sb A B (pN N B) (.mk k n l) t') fun N B x y _ h1 h2=>⟨rfl,by rw[if_pos hk];exact h1,h2⟩;have e:tyF tk sb A (.mk k n l)=fun w=>(Ty.mk k (cG tk sb A n w).1 (tyF.go tk sb A l (cG tk sb A n w).2).1,(tyF.go tk sb A l (cG tk sb A n w).2).2):=by
   funext w;simp only[tyF,hk,if_true]
  rw[e];exact h1
 ·have h1:=(kc9 (tk:=tk) (a:=A.length) (x:=n) (R:=fun _ _ m=>m=n) fun _ _ _=>rfl).two hg2 (fun m l=>Ty.mk k m l) (T:=fun N B t'=>eE sb A B (pN N B) (.mk k n l) t') fun N B x y _ h1 h2=>⟨rfl,by rw[if_neg hk];exact h1.symm,h2⟩;have e:tyF tk sb A (.mk k n l)=fun w=>(Ty.mk k n (tyF.go tk sb A l w).1,(tyF.go tk sb A l w).2):=by
   funext w;simp only[tyF,hk,if_false]
  rw[e];exact h1
theorem z18:∀l:List Ty,(∀n,cB.go l n→n∉A→sb n∈tk)→Out tk A.length (tyF.go tk sb A l) (fun N B l'=>eE.go sb A B (pN N B) l l')
 |[],_=>kc9 fun N B _=>rfl
 |t::r,hF=>(zD1 t fun n hn=>hF n (.inl hn)).two (z18 r fun n hn=>hF n (.inr hn)) (fun x y=>x::y) fun N B x y _ h1 h2=>⟨x,y,rfl,h1,h2⟩
theorem ze3 {α:Type} {a:Nat} {f:α→WS→α×WS} {R:List Int→List Int→α→α→Prop}:∀l:List α,(∀x∈l,Out tk a (f x) fun N B y=>R N B x y)→Out tk a (aH f l) fun N B l'=>cV (R N B) l l'
 |[],_=>kc9 fun N B _=>trivial
 |x::l,h=>(h x (by simp)).two (ze3 l fun y hy=>h y (by simp[hy])) (fun x y=>x::y) fun N B x y _ h1 h2=>⟨h1,h2⟩
theorem jS8 (c:Ct) (hF:∀n,cB.go c.args n→n∉A→sb n∈tk):Out tk A.length (ctF tk sb A c) fun N B c'=>uW sb A B (pN N B) c c':=
 (kc9 (tk:=tk) (a:=A.length) (x:=c.name) (R:=fun _ _ m=>c.name=m) fun _ _ _=>rfl).two (z18 c.args hF) (fun s l=>Ct.mk s l) fun N B x y _ h1 h2=>⟨h1,h2⟩
theorem jS9 (t:Tym) (hF:∀n,oG t n→n∉A→sb n∈tk):Out tk A.length (bY tk sb A t) fun N B t'=>oH sb A B (pN N B) t t':=
 (zD1 t.t fun n hn=>hF n (.inl hn)).two (ze3 t.cts fun c hc=>jS8 c fun n hn=>hF n (.inr ⟨c,hc,hn⟩)) (fun x l=>Tym.mk t.name x l) fun N B x y _ h1 h2=>⟨rfl,h1,h2⟩
theorem jT0 (t:Vam) (hF:∀n,cB t.s.t n→n∉A→sb n∈tk):Out tk A.length (cH tk sb A t) fun N B t'=>oI sb A B (pN N B) t t':=
 (zD1 t.s.t hF).two (kc9 (x:=()) (R:=fun _ _ _=>True) fun _ _ _=>trivial) (fun x _=>Vam.mk t.name ⟨t.s.gens,x⟩) fun N B x y _ h1 h2=>⟨rfl,rfl,h1⟩
end
theorem Out.bind {β:Type} {tk:List Int} {a c:Nat} {f:WS→β×WS} {R:List Int→List Int→β→Prop} (h:Out tk (a+c) f R) {Q:List Int→List Int→(List Int×β)→Prop}
  (hQ:∀N B M x,N.length=a→M.length=c→NOk tk (N++M)→BOk N B→R (N++M) (B++cU M) x→Q N B (cU M,x)) :
  Out tk a (fun w=>((cU ((f (aY c w)).2.nums.drop a),(f (aY c w)).1),dQ a (f (aY c w)).2)) Q:=by
 intro w hw hok;have hlen:(aY c w).nums.length=a+c:=by simp[aY,hw]
 obtain⟨h1,h2,h3⟩:=h (aY c w) hlen hok.enter;have hl2:(f (aY c w)).2.nums.length=a+c:=by rw[h1.len,hlen]
 refine⟨h1.leave hw,h2.leave,fun N B hl hN hB=>?_⟩;obtain⟨k1,k2⟩:=jS6 h2 hl (by omega) hN;have hNl:N.length=a:=by
  have:=hl.1;simp only[dQ,kg2]at this;omega
 refine hQ N B _ _ hNl (by rw[List.length_drop];omega) k2 hB (h3 _ _ k1 k2 ?_);exact hB.app k2 (pK _)
theorem Out.congr {β:Type} {tk:List Int} {a:Nat} {f g:WS→β×WS} {R:List Int→List Int→β→Prop} (h:Out tk a f R) (e:∀w,g w=f w):Out tk a g R:=by
 have:g=f:=funext e;rw[this];exact h
theorem jT1 (tk:List Int) (sb:Int→Int):∀(s:Stx) (A:List Int),(∀n,aU s n→n∉A→sb n∈tk)→Out tk A.length (aZ tk sb A s) (fun N B s'=>aV sb A B (pN N B) s s'):=by
 intro s;induction s using Stx.ind with
 |h ts vs ss fs gs i1 i2 i3=>
 intro A hF;simp only[aU]at hF;have gS:∀(l:List (ByteArray×Stx)),(∀x∈l,∀(A:List Int),(∀n,aU x.2 n→n∉A→sb n∈tk)→Out tk A.length (aZ tk sb A x.2) (fun N B s'=>aV sb A B (pN N B) x.2 s'))→(∀n,aU.goS l n→n∉A→sb n∈tk)→
   Out tk A.length (aZ.goS tk sb A l) (fun N B l'=>aV.goS sb A B (pN N B) l l'):=by
  intro l;induction l with
  |nil=>intro _ _;exact kc9 fun N B _=>by rw[aV.goS]
  |cons x r ih=>
   obtain⟨s,x⟩:=x;intro hi hF;have k1:=hi (s,x) (by simp) A fun n hn=>hF n (.inl hn);have k2:=ih (fun y hy=>hi y (by simp[hy])) fun n hn=>hF n (.inr hn);have k:=k1.two k2 (fun a b=>(s,a)::b) (T:=fun N B l'=>aV.goS sb A B (pN N B) ((s,x)::r) l') fun N B y z _ h1 h2=>by
    rw[aV.goS];exact⟨y,z,rfl,h1,h2⟩
   have e:aZ.goS tk sb A ((s,x)::r)=fun w=>((s,(aZ tk sb A x w).1)::(aZ.goS tk sb A r (aZ tk sb A x w).2).1,(aZ.goS tk sb A r (aZ tk sb A x w).2).2):=by
    funext w;simp only[aZ.goS]
   rw[e];exact k
 have gG:∀(l:List (ByteArray×List Int×Stx)),(∀x∈l,∀(A:List Int),(∀n,aU x.2.2 n→n∉A→sb n∈tk)→Out tk A.length (aZ tk sb A x.2.2) (fun N B s'=>aV sb A B (pN N B) x.2.2 s'))→(∀n,aU.goG l n→n∉A→sb n∈tk)→
   Out tk A.length (aZ.goG tk sb A l) (fun N B l'=>aV.goG sb A B (pN N B) l l'):=by
  intro l;induction l with
  |nil=>intro _ _;exact kc9 fun N B _=>by rw[aV.goG]
  |cons x r ih=>
   obtain⟨s,q,y⟩:=x;intro hi hF;have k1:=hi (s,q,y) (by simp) (A++q) fun n hn hA=>hF n (.inl ⟨fun h=>hA (by simp[h]),hn⟩) fun h=>hA (by simp[h]);rw[ke1]at k1;have k1c:=k1.bind (Q:=fun N B z=>∃p2,PI q.length z.1.length p2∧aV sb (A++q) (B++z.1) (ext A.length B.length (pN N B) p2) y z.2) fun N B M x hN hM hn hb h=>by
    refine⟨pN M (cU M),?_,?_⟩
    ·have:=ze2 hn.right (pK M);rw[hM]at this;exact this
    ·have e:=zD0 hn hb (pK M);rw[hN]at e;rw[e];exact h
   have k2:=ih (fun y hy=>hi y (by simp[hy])) fun n hn=>hF n (.inr hn);have k:=k1c.two k2 (fun a b=>(s,a.1,a.2)::b) (T:=fun N B l'=>aV.goG sb A B (pN N B) ((s,q,y)::r) l') fun N B y z _ h1 h2=>by
    rw[aV.goG];obtain⟨p2,h1,h3⟩:=h1;exact⟨y.1,y.2,z,p2,rfl,h1,h3,h2⟩
   exact k
 have gF:∀(l:List (ByteArray×List Int×Stx×List Int×Stx)),(∀x∈l,(∀(A:List Int),(∀n,aU x.2.2.1 n→n∉A→sb n∈tk)→Out tk A.length (aZ tk sb A x.2.2.1) (fun N B s'=>aV sb A B (pN N B) x.2.2.1 s'))∧
    (∀(A:List Int),(∀n,aU x.2.2.2.2 n→n∉A→sb n∈tk)→Out tk A.length (aZ tk sb A x.2.2.2.2) (fun N B s'=>aV sb A B (pN N B) x.2.2.2.2 s')))→(∀n,aU.goF l n→n∉A→sb n∈tk)→
   Out tk A.length (aZ.goF tk sb A l) (fun N B l'=>aV.goF sb A B (pN N B) l l'):=by
  intro l;induction l with
  |nil=>intro _ _;exact kc9 fun N B _=>by rw[aV.goF]
  |cons x r ih=>
   obtain⟨s,p,x,q,y⟩:=x;intro hi hF;have k:=hi (s,p,x,q,y) (by simp);have kx:=k.1 (A++p) fun n hn hA=>hF n (.inl ⟨fun h=>hA (by simp[h]),.inl hn⟩) fun h=>hA (by simp[h]);have ky:=k.2 (A++p++q) fun n hn hA=>hF n (.inl ⟨fun h=>hA (by simp[h]),.inr ⟨fun h=>hA (by simp[h]),hn⟩⟩) fun h=>hA (by simp[h]);rw[ke1 («as»:=A++p)]at ky;have ky2:=ky.bind (Q:=fun N B z=>∃p2,PI q.length z.1.length p2∧aV sb (A++p++q) (B++z.1) (ext (A++p).length B.length (pN N B) p2) y z.2) fun N B M x hN hM hn hb h=>by
    refine⟨pN M (cU M),?_,?_⟩
    ·have:=ze2 hn.right (pK M);rw[hM]at this;exact this
    ·have e:=zD0 hn hb (pK M);rw[hN]at e;rw[e];exact h
   have kxy:=kx.two ky2 (fun a b=>(a,b)) (T:=fun N B z=>aV sb (A++p) B (pN N B) x z.1∧∃p2,PI q.length z.2.1.length p2∧aV sb (A++p++q) (B++z.2.1) (ext (A++p).length B.length (pN N B) p2) y z.2.2) fun N B y z _ h1 h2=>⟨h1,h2⟩;rw[ke1]at kxy;have kb:=kxy.bind (Q:=fun N B z=>∃p1 p2,PI p.length z.1.length p1∧PI q.length z.2.2.1.length p2∧aV sb (A++p) (B++z.1) (ext A.length B.length (pN N B) p1) x z.2.1∧
     aV sb (A++p++q) (B++z.1++z.2.2.1) (ext (A++p).length (B++z.1).length (ext A.length B.length (pN N B) p1) p2) y z.2.2.2) fun N B M x hN hM hn hb h=>by
    obtain⟨h1,p2,h2,h3⟩:=h;have e:=zD0 hn hb (pK M);rw[hN]at e;refine⟨pN M (cU M),p2,?_,h2,?_,?_⟩
    ·have:=ze2 hn.right (pK M);rw[hM]at this;exact this
    ·rw[e];exact h1
    ·rw[e,ke1 («as»:=A)];exact h3
   have k2:=ih (fun y hy=>hi y (by simp[hy])) fun n hn=>hF n (.inr hn);have kk:=kb.two k2 (fun a b=>(s,a.1,a.2.1,a.2.2.1,a.2.2.2)::b) (T:=fun N B l'=>aV.goF sb A B (pN N B) ((s,p,x,q,y)::r) l') fun N B z u _ h1 h2=>by
    rw[aV.goF];obtain⟨p1,p2,g1,g2,g3,g4⟩:=h1;exact⟨z.1,z.2.1,z.2.2.1,z.2.2.2,u,p1,p2,rfl,g1,g2,g3,g4,h2⟩
   refine kk.congr fun w=>?_;simp only[aZ.goF,ke1]
 have k1:=ze3 (tk:=tk) (a:=A.length) (R:=fun N B x y=>oH sb A B (pN N B) x y) (f:=bY tk sb A) ts fun t ht=>jS9 t fun n hn=>hF n (.inl ⟨t,ht,hn⟩);have k2:=ze3 (tk:=tk) (a:=A.length) (R:=fun N B x y=>oI sb A B (pN N B) x y) (f:=cH tk sb A) vs fun t ht=>jT0 t fun n hn=>hF n (.inr (.inl ⟨t,ht,hn⟩));have k3:=gS ss i1 fun n hn=>hF n (.inr (.inr (.inl hn)));have k4:=gF fs i2 fun n hn=>hF n (.inr (.inr (.inr (.inl hn))));have k5:=gG gs i3 fun n hn=>hF n (.inr (.inr (.inr (.inr hn))));have k12:=k1.two k2 (fun a b=>(a,b)) (T:=fun N B z=>cV (oH sb A B (pN N B)) ts z.1∧cV (oI sb A B (pN N B)) vs z.2) fun N B y z _ h1 h2=>⟨h1,h2⟩;have k34:=k12.two k3 (fun a b=>(a,b)) (T:=fun N B z=>(cV (oH sb A B (pN N B)) ts z.1.1∧cV (oI sb A B (pN N B)) vs z.1.2)∧aV.goS sb A B (pN N B) ss z.2) fun N B y z _ h1 h2=>⟨h1,h2⟩;have k45:=k34.two k4 (fun a b=>(a,b)) (T:=fun N B z=>((cV (oH sb A B (pN N B)) ts z.1.1.1∧cV (oI sb A B (pN N B)) vs z.1.1.2)∧aV.goS sb A B (pN N B) ss z.1.2)∧aV.goF sb A B (pN N B) fs z.2) fun N B y z _ h1 h2=>⟨h1,h2⟩;have k:=k45.two k5 (fun a b=>Stx.mk a.1.1.1 a.1.1.2 a.1.2 a.2 b) (T:=fun N B s'=>aV sb A B (pN N B) (.mk ts vs ss fs gs) s') fun N B y z _ h1 h2=>by
  rw[aV];exact⟨h1.1.1.1,h1.1.1.2,h1.1.2,h1.2,h2⟩
 refine k.congr fun w=>?_;simp only[aZ]
theorem jT2 {tk:List Int} {sb:Int→Int} (a:List Int×Stx) (hF:∀n,aU a.2 n→n∉a.1→sb n∈tk):pJ sb a (bU tk sb [] a w0).1:=by
 have k:=jT1 tk sb a.2 a.1 hF;have hok:WOk tk w0:=⟨⟨fun i j k h=>by simp[w0]at h,fun k h=>by simp[w0]at h⟩,fun k h=>by simp[w0]at h,km9 _⟩;obtain⟨h1,h2,h3⟩:=k (aY a.1.length w0) (by simp[aY,w0]) hok.enter;have h4:=h3 _ _ kb9 h2.1 (pK _);have hl:(aZ tk sb a.1 a.2 (aY a.1.length w0)).2.nums.length=a.1.length:=by rw[h1.len];simp[aY,w0]
 refine⟨pN ((aZ tk sb a.1 a.2 (aY a.1.length w0)).2.nums) (cU ((aZ tk sb a.1 a.2 (aY a.1.length w0)).2.nums)),?_,?_⟩
 ·have:=ze2 h2.1 (pK _);rw[hl]at this;simp only[bU,kh0,kg0,kj7];exact this
 ·simp only[bU,kh0,kg0,kj7];exact h4
def idp (n i j:Nat):Prop:=i=j∧i<n
theorem ze4 (n:Nat):PI n n (idp n):=⟨fun i j h=>⟨h.2,h.1▸h.2⟩,fun i j k h g=>h.1.symm.trans g.1,fun i j k h g=>h.1.trans g.1.symm⟩
theorem zD2 {a c:Nat}:ext a a (idp a) (idp c)=idp (a+c):=by
 funext i j;apply propext;constructor
 ·rintro(⟨rfl,h⟩|⟨u,v,rfl,rfl,rfl,h⟩)
  ·exact⟨rfl,by omega⟩
  ·exact⟨rfl,by omega⟩
 ·rintro⟨rfl,h⟩;rcases kf3 i a with h1|h1
  ·exact .inl ⟨rfl,h1⟩
  ·exact .inr ⟨i-a,i-a,by omega,by omega,rfl,by omega⟩
def G2 (A0 B0 A B:List Int) (F:Int→Prop):Prop:=∀n,F n→lg (im A0 B0) A B (idp A.length) n (im (A0++A) (B0++B) n)
theorem z19 {A B own out:List Int} {n:Int} (hAB:A.length=B.length) (hn:n∉own):im (A++own) (B++out) n=im A B n:=by
 unfold im;rw[gU,kL.2 hn];simp only;cases e3:cE A n with
 |none=>rfl
 |some i=>
  have:=sP e3;simp only[kj0];rw[kf7 (by omega)]
theorem G2.bind {A0 B0 A B own out:List Int} {F:Int→Prop} (h0:A0.length=B0.length) (hAB:A.length=B.length) (hb:eM (A0++A) (B0++B) own out F) (hG:G2 A0 B0 A B fun n=>F n∧n∉own):G2 A0 B0 (A++own) (B++out) F:=by
 obtain⟨hlen,h1,h2⟩:=hb;intro n hn;have hl:(A0++A).length=(B0++B).length:=by simp[h0,hAB]
 rw[←kf1,←kf1];by_cases hm:n∈own
 ·cases e:cE own n with
  |none=>exact absurd hm (kL.1 e)
  |some j=>
   have hj:=lO.1 e;have hjl:=sP e;obtain⟨u,hu⟩:∃u,out[j]?=some u:=⟨out[j]'(by omega),ke7 (by omega)⟩;have him:im (A0++A++own) (B0++B++out) n=u:=by
    unfold im;rw[gU,e];simp only[kj0];rw[hl,kf4 (by omega),kj9,hu];rfl
   rw[him];have hout:cE out u=some j:=by
    refine lO.2 ⟨hu,fun k hk hc=>?_⟩;have hkl:k<own.length:=by
     have:=(kd6.1 hc).1;omega
    obtain⟨y,hy⟩:∃y,own[k]?=some y:=⟨own[k],ke7 hkl⟩;have hne:n≠y:=fun g=>hj.2 k hk (by rw[hy,g]);exact h2 j k n y u u hk hj.1 hy hne hu hc rfl
   exact .inl ⟨A.length+j,B.length+j,by rw[gU,e],by rw[gU,hout],by omega,by simp;omega⟩
 ·have e:=kL.2 hm;have g:=hG n ⟨hn,hm⟩;have hc:=h1 n hn hm;have e2:=kL.2 hc;rw[z19 hl hm];rcases g with⟨i,j,g1,g2,g3⟩|⟨g1,g2,g3⟩
  ·refine .inl ⟨i,j,by rw[gU,e];exact g1,by rw[gU,e2];exact g2,g3.1,?_⟩;have:=g3.2;simp;omega
  ·exact .inr ⟨by rw[gU,e];exact g1,by rw[gU,e2];exact g2,g3⟩
theorem zD3 {A0 B0 A B:List Int}:∀(t:Ty),G2 A0 B0 A B (cB t)→eE (im A0 B0) A B (idp A.length) t (dC (A0++A) (B0++B) t):=by
 intro t;induction t using Ty.ind with
 |h k n l ih=>
 intro hG;have hg:∀l:List Ty,(∀t∈l,G2 A0 B0 A B (cB t)→eE (im A0 B0) A B (idp A.length) t (dC (A0++A) (B0++B) t))→G2 A0 B0 A B (cB.go l)→eE.go (im A0 B0) A B (idp A.length) l (dC.go (A0++A) (B0++B) l):=by
  intro l;induction l with
  |nil=>intro _ _;rfl
  |cons t r ih2=>
   intro hi hG;exact⟨_,_,rfl,hi t (by simp) fun n hn=>hG n (.inl hn),ih2 (fun t ht=>hi t (by simp[ht])) fun n hn=>hG n (.inr hn)⟩
 refine⟨rfl,?_,hg l ih fun n hn=>hG n (.inr hn)⟩;by_cases hk:k=fK
 ·rw[if_pos hk,if_pos hk];exact hG n (.inl ⟨hk,rfl⟩)
 ·rw[if_neg hk,if_neg hk]
theorem z20 {A0 B0 A B:List Int}:∀l:List Ty,G2 A0 B0 A B (cB.go l)→eE.go (im A0 B0) A B (idp A.length) l (dC.go (A0++A) (B0++B) l)
 |[],_=>rfl
 |t::r,hG=>⟨_,_,rfl,zD3 t fun n hn=>hG n (.inl hn),z20 r fun n hn=>hG n (.inr hn)⟩
theorem jT3 (A0 B0:List Int) (h0:A0.length=B0.length):∀(s s':Stx) (A B:List Int),A.length=B.length→G2 A0 B0 A B (aU s)→bG (A0++A) (B0++B) s s'→aV (im A0 B0) A B (idp A.length) s s':=by
 intro s;induction s using Stx.ind with
 |h ts vs ss fs gs i1 i2 i3=>
 rintro⟨ts',vs',ss',fs',gs'⟩ A B hAB hG hst;rw[bG]at hst;obtain⟨rfl,rfl,h3,h4,h5⟩:=hst;simp only[aU]at hG;rw[aV];refine⟨zd5 fun t ht=>⟨rfl,zD3 _ fun n hn=>hG n (.inl ⟨t,ht,.inl hn⟩),zd5 fun c hc=>⟨rfl,z20 _ fun n hn=>hG n (.inl ⟨t,ht,.inr ⟨c,hc,hn⟩⟩)⟩⟩,
  zd5 fun v hv=>⟨rfl,rfl,zD3 _ fun n hn=>hG n (.inr (.inl ⟨v,hv,hn⟩))⟩,?_,?_,?_⟩
 ·have g:∀(l r:List (ByteArray×Stx)),(∀x∈l,∀s' A B,A.length=B.length→G2 A0 B0 A B (aU x.2)→bG (A0++A) (B0++B) x.2 s'→aV (im A0 B0) A B (idp A.length) x.2 s')→G2 A0 B0 A B (aU.goS l)→bG.goS (A0++A) (B0++B) l r→aV.goS (im A0 B0) A B (idp A.length) l r:=by
   intro l;induction l with
   |nil=>intro r _ _ h;rw[bG.goS]at h;rw[aV.goS];exact h
   |cons x l ih=>
    obtain⟨s,x⟩:=x;intro r hi hG h;rw[bG.goS]at h;obtain⟨x',r',rfl,k1,k2⟩:=h;rw[aV.goS];exact⟨x',r',rfl,hi (s,x) (by simp) x' A B hAB (fun n hn=>hG n (.inl hn)) k1,ih r' (fun y hy=>hi y (by simp[hy])) (fun n hn=>hG n (.inr hn)) k2⟩
  exact g ss ss' i1 (fun n hn=>hG n (.inr (.inr (.inl hn)))) h3
 ·have g:∀(l r:List (ByteArray×List Int×Stx×List Int×Stx)),(∀x∈l,(∀s' A B,A.length=B.length→G2 A0 B0 A B (aU x.2.2.1)→bG (A0++A) (B0++B) x.2.2.1 s'→aV (im A0 B0) A B (idp A.length) x.2.2.1 s')∧
    (∀s' A B,A.length=B.length→G2 A0 B0 A B (aU x.2.2.2.2)→bG (A0++A) (B0++B) x.2.2.2.2 s'→aV (im A0 B0) A B (idp A.length) x.2.2.2.2 s'))→G2 A0 B0 A B (aU.goF l)→bG.goF (A0++A) (B0++B) l r→aV.goF (im A0 B0) A B (idp A.length) l r:=by
   intro l;induction l with
   |nil=>intro r _ _ h;rw[bG.goF]at h;rw[aV.goF];exact h
   |cons x l ih=>
    obtain⟨s,p,x,q,y⟩:=x;intro r hi hG h;rw[bG.goF]at h;obtain⟨p',x',q',y',r',rfl,b1,k1,b2,k2,k3⟩:=h;have k:=hi (s,p,x,q,y) (by simp);have g1:=G2.bind h0 hAB b1 fun n hn=>hG n (.inl ⟨hn.2,hn.1⟩);have hAB2:(A++p).length=(B++p').length:=by simp[hAB,b1.1]
    rw[kf1,kf1]at b2 k1;have g2:=G2.bind h0 hAB2 b2 fun n hn=>g1 n (.inr ⟨hn.2,hn.1⟩);rw[kf1 A0,kf1 B0,kf1 A0,kf1 B0]at k2;rw[aV.goF];have e1:ext A.length B.length (idp A.length) (idp p.length)=idp (A++p).length:=by rw[←hAB,zD2,ke1]
    have e2:ext (A++p).length (B++p').length (idp (A++p).length) (idp q.length)=idp (A++p++q).length:=by rw[←hAB2,zD2,←ke1]
    refine⟨p',x',q',y',r',idp p.length,idp q.length,rfl,?_,?_,?_,?_,ih r' (fun y hy=>hi y (by simp[hy])) (fun n hn=>hG n (.inr hn)) k3⟩
    ·rw[b1.1];exact ze4 _
    ·rw[b2.1];exact ze4 _
    ·rw[e1];exact k.1 x' _ _ hAB2 (fun n hn=>g1 n (.inl hn)) k1
    ·rw[e1,e2];exact k.2 y' _ _ (by simp[hAB,b1.1,b2.1]) g2 k2
  exact g fs fs' i2 (fun n hn=>hG n (.inr (.inr (.inr (.inl hn))))) h4
 ·have g:∀(l r:List (ByteArray×List Int×Stx)),(∀x∈l,∀s' A B,A.length=B.length→G2 A0 B0 A B (aU x.2.2)→bG (A0++A) (B0++B) x.2.2 s'→aV (im A0 B0) A B (idp A.length) x.2.2 s')→G2 A0 B0 A B (aU.goG l)→bG.goG (A0++A) (B0++B) l r→aV.goG (im A0 B0) A B (idp A.length) l r:=by
   intro l;induction l with
   |nil=>intro r _ _ h;rw[bG.goG]at h;rw[aV.goG];exact h
   |cons x l ih=>
    obtain⟨s,q,y⟩:=x;intro r hi hG h;rw[bG.goG]at h;obtain⟨q',y',r',rfl,b2,k2,k3⟩:=h;have g2:=G2.bind h0 hAB b2 fun n hn=>hG n (.inl ⟨hn.2,hn.1⟩);rw[kf1,kf1]at k2;rw[aV.goG];have e1:ext A.length B.length (idp A.length) (idp q.length)=idp (A++q).length:=by rw[←hAB,zD2,ke1]
    refine⟨q',y',r',idp q.length,rfl,?_,?_,ih r' (fun y hy=>hi y (by simp[hy])) (fun n hn=>hG n (.inr hn)) k3⟩
    ·rw[b2.1];exact ze4 _
    ·rw[e1];exact hi (s,q,y) (by simp) y' _ _ (by simp[hAB,b2.1]) g2 k2
  exact g gs gs' i3 (fun n hn=>hG n (.inr (.inr (.inr (.inr hn))))) h5
theorem jT4 {A0 B0 q q':List Int} {y y':Stx} (h0:A0.length=B0.length) (hb:eM A0 B0 q q' (aU y)) (hr:bG (A0++q) (B0++q') y y'):pJ (im A0 B0) (q,y) (q',y'):=by
 have g0:G2 A0 B0 [] [] fun n=>aU y n∧n∉q:=fun n _=>.inr ⟨rfl,rfl,by rw[ki0,ki0]⟩;have hb2:eM (A0++[]) (B0++[]) q q' (aU y):=by rw[ki0,ki0];exact hb
 have g:=G2.bind h0 rfl hb2 g0;refine⟨idp q.length,?_,jT3 A0 B0 h0 y y' q q' hb.1.symm ?_ hr⟩
 ·show PI q.length q'.length _;rw[hb.1];exact ze4 _
 ·simpa using g
theorem jT5 {q:List Int} {s:Stx} {m:Int} (h:aU s m) (hq:m∉q):m∈cR (q,s):=by
 unfold cR bU;exact jQ9 s _ _ m (.inr ⟨h,by simpa using hq⟩)
theorem z21 {α:Type} {lt:ByteArray→ByteArray→Bool} {nm:α→ByteArray} {x a:α}:∀{l:List α},a∈dH lt nm x l↔a=x∨a∈l
 |[]=>by simp[dH]
 |y::r=>by
  unfold dH;split
  ·simp only[kg9,z21 (l:=r)];constructor
   ·rintro(h|h|h)<;>simp[h]
   ·rintro(h|h|h)<;>simp[h]
  ·simp only[kg9]
theorem yD {m:Int}:∀{l:List (ByteArray×Stx)},aU.goS l m↔∃x∈l,aU x.2 m
 |[]=>by simp[aU.goS]
 |(s,x)::r=>by simp[aU.goS,yD (l:=r)]
theorem yE {m:Int}:∀{l:List (ByteArray×List Int×Stx×List Int×Stx)},aU.goF l m↔∃x∈l,m∉x.2.1∧(aU x.2.2.1 m∨(m∉x.2.2.2.1∧aU x.2.2.2.2 m))
 |[]=>by simp[aU.goF]
 |(s,p,x,q,y)::r=>by
  simp only[aU.goF,yE (l:=r),kg9];constructor
  ·rintro(h|⟨z,hz,h⟩)
   ·exact⟨_,.inl rfl,h⟩
   ·exact⟨z,.inr hz,h⟩
  ·rintro⟨z,rfl|hz,h⟩
   ·exact .inl h
   ·exact .inr ⟨z,hz,h⟩
theorem yF {m:Int}:∀{l:List (ByteArray×List Int×Stx)},aU.goG l m↔∃x∈l,m∉x.2.1∧aU x.2.2 m
 |[]=>by simp[aU.goG]
 |(s,q,y)::r=>by
  simp only[aU.goG,yF (l:=r),kg9];constructor
  ·rintro(h|⟨z,hz,h⟩)
   ·exact⟨_,.inl rfl,h⟩
   ·exact⟨z,.inr hz,h⟩
  ·rintro⟨z,rfl|hz,h⟩
   ·exact .inl h
   ·exact .inr ⟨z,hz,h⟩
structure gQ (lt:ByteArray→ByteArray→Bool):Prop where
 irr:∀a,lt a a=false
 trans:∀a b c,lt a b=true→lt b c=true→lt a c=true
 tri:∀a b,lt a b=false→lt b a=false→a=b
theorem gQ.asym {lt:ByteArray→ByteArray→Bool} (h:gQ lt) {a b:ByteArray} (hab:lt a b=true):lt b a=false:=by
 cases e:lt b a with
 |false=>rfl
 |true=>have:=h.trans a b a hab e;rw[h.irr]at this;cases this
section
variable {α:Type} {lt:ByteArray→ByteArray→Bool} {ky:α→ByteArray}
def Lq (lt:ByteArray→ByteArray→Bool) (ky:α→ByteArray) (x y:α):Prop:=lt (ky y) (ky x)=false
def Srd (lt:ByteArray→ByteArray→Bool) (ky:α→ByteArray) (l:List α):Prop:=List.Pairwise (Lq lt ky) l
def Fil (ky:α→ByteArray) (l r:List α):Prop:=∀s,l.filter (fun x=>decide (ky x=s))=r.filter (fun x=>decide (ky x=s))
theorem Lq.trans (h:gQ lt) {x y z:α} (h1:Lq lt ky x y) (h2:Lq lt ky y z):Lq lt ky x z:=by
 unfold Lq at *;cases e:lt (ky z) (ky x)with
 |false=>rfl
 |true=>
  cases e2:lt (ky x) (ky y)with
  |true=>have:=h.trans _ _ _ e e2;rw[h2]at this;cases this
  |false=>have:=h.tri _ _ h1 e2;rw[this]at h2;rw[h2]at e;cases e
theorem Lq.of_lt (h:gQ lt) {x y:α} (h1:lt (ky x) (ky y)=true):Lq lt ky x y:=h.asym h1
theorem z22 (h:gQ lt) {x y:α} (h1:lt (ky x) (ky y)=true):ky x≠ky y:=fun e=>by rw[e,h.irr]at h1;cases h1
theorem kb6 {l:List α}:Fil ky l l:=fun _=>rfl
theorem Fil.trans {l r q:List α} (h:Fil ky l r) (g:Fil ky r q):Fil ky l q:=fun s=>(h s).trans (g s)
theorem Fil.symm {l r:List α} (h:Fil ky l r):Fil ky r l:=fun s=>(h s).symm
theorem Fil.app {a b c d:List α} (h:Fil ky a b) (g:Fil ky c d):Fil ky (a++c) (b++d):=fun s=>by rw[ko1,ko1,h s,g s]
theorem Fil.swap {X Y:List α} (h:∀x∈X,∀y∈Y,ky x≠ky y):Fil ky (X++Y) (Y++X):=fun s=>by
 rw[ko1,ko1];by_cases hx:∃x∈X,ky x=s
 ·obtain⟨x,hx,rfl⟩:=hx;have:Y.filter (fun y=>decide (ky y=ky x))=[]:=kq7.2 fun y hy=>by simpa using fun e=>h x hx y hy e.symm
  rw[this,ki0,kh0]
 ·have:X.filter (fun x=>decide (ky x=s))=[]:=kq7.2 fun x hx'=>by simpa using fun e=>hx ⟨x,hx',e⟩
  rw[this,ki0,kh0]
theorem Fil.mem {l r:List α} (h:Fil ky l r) {x:α} (hx:x∈l):x∈r:=by
 have:x∈l.filter (fun y=>decide (ky y=ky x)):=ku2.2 ⟨hx,by simp⟩;rw[h]at this;exact(ku2.1 this).1
theorem Fil.len {l r:List α} (h:Fil ky l r):l.length=r.length:=by
 induction l generalizing r with
 |nil=>
  cases r with
  |nil=>rfl
  |cons y r=>have:=h.symm.mem (x:=y) (by simp);cases this
 |cons x l ih=>
  have hx:=h.mem (x:=x) (by simp);obtain⟨p,q,rfl⟩:=List.append_of_mem hx;have e:=h (ky x);rw[kk3 (by simp),ko1,kk3 (by simp)]at e;have key:∃p' q',p++x::q=p'++x::q'∧∀y∈p',ky y≠ky x:=by
   cases hp:p.filter (fun y=>decide (ky y=ky x))with
   |nil=>exact⟨p,q,rfl,fun y hy hc=>by have:=kq7.1 hp y hy;simp[hc]at this⟩
   |cons z t=>
    rw[hp]at e;have hz:x=z:=(List.cons.inj e).1;subst hz;have:∀p:List α,p.filter (fun y=>decide (ky y=ky x))=x::t→∃p' q',p=p'++x::q'∧∀y∈p',ky y≠ky x:=by
     intro p;induction p with
     |nil=>intro h;cases h
     |cons y p ihp=>
      intro h;by_cases hy:ky y=ky x
      ·rw[kk3 (by simpa using hy)]at h;have:=(List.cons.inj h).1;subst this;exact⟨[],p,rfl,by simp⟩
      ·rw[kn2 (by simpa using hy)]at h;obtain⟨p',q',rfl,h2⟩:=ihp h;exact⟨y::p',q',rfl,fun u hu=>by rcases kg9.1 hu with rfl|hu;exact hy;exact h2 u hu⟩
    obtain⟨p',q',rfl,h2⟩:=this p hp;exact⟨p',q'++x::q,by simp,h2⟩
  obtain⟨p',q',e2,h2⟩:=key;rw[e2]at h ⊢;have hs:Fil ky (p'++x::q') (x::(p'++q')):=by
   have:=(Fil.swap (ky:=ky) (X:=p') (Y:=[x]) (fun y hy z hz=>by rw[ki8.1 hz];exact h2 y hy)).app (kb6 (l:=q'));simpa using this
  have ht:Fil ky l (p'++q'):=fun s=>by
   have:=(h.trans hs) s;by_cases hs':ky x=s
   ·rw[kk3 (by simpa using hs'),kk3 (by simpa using hs')]at this;exact(List.cons.inj this).2
   ·rw[kn2 (by simpa using hs'),kn2 (by simpa using hs')]at this;exact this
  have:=ih ht;simp only[ke1,List.length_cons]at this ⊢;omega
theorem jQ {X Y:List α}:Srd lt ky (X++Y)↔Srd lt ky X∧Srd lt ky Y∧∀x∈X,∀y∈Y,Lq lt ky x y:=List.pairwise_append
theorem z23 (h:gQ lt):∀{l r:List α},Srd lt ky l→Srd lt ky r→Fil ky l r→l=r
 |[],[],_,_,_=>rfl
 |[],y::r,_,_,hf=>by have:=hf.symm.mem (x:=y) (by simp);cases this
 |x::l,[],_,_,hf=>by have:=hf.mem (x:=x) (by simp);cases this
 |x::l,y::r,hl,hr,hf=>by
  have hl':=km8.1 hl;have hr':=km8.1 hr;have hxy:ky x=ky y:=by
   rcases kg9.1 (hf.mem (x:=x) (by simp))with e|e
   ·rw[e]
   ·rcases kg9.1 (hf.symm.mem (x:=y) (by simp))with e2|e2
    ·rw[e2]
    ·exact h.tri _ _ (hr'.1 x e) (hl'.1 y e2)
  have e:=hf (ky x);rw[kk3 (by simp),kk3 (by simp[hxy])]at e;have hxe:x=y:=(List.cons.inj e).1;subst hxe
  congr 1
  refine z23 h hl'.2 hr'.2 fun s=>?_;have:=hf s;by_cases hs:ky x=s
  ·rw[kk3 (by simpa using hs),kk3 (by simpa using hs)]at this;exact(List.cons.inj this).2
  ·rw[kn2 (by simpa using hs),kn2 (by simpa using hs)]at this;exact this
theorem z24 (h:gQ lt) {x:α}:∀{acc:List α},Srd lt ky acc.reverse→Srd lt ky (dH lt ky x acc).reverse∧Fil ky (dH lt ky x acc).reverse (acc.reverse++[x])
 |[],_=>⟨by simp[dH,Srd],by simp[dH];exact kb6⟩
 |y::r,hs=>by
  rw[km4]at hs;have hs':=jQ.1 hs;unfold dH;split
  ·rename_i hlt;obtain⟨g1,g2⟩:=z24 h (x:=x) hs'.1;rw[km4,km4];refine⟨jQ.2 ⟨g1,kq4 _ _,fun z hz u hu=>?_⟩,?_⟩
   ·rw[ki8.1 hu];rcases z21.1 (kq0.1 hz)with rfl|hz
    ·exact Lq.of_lt h hlt
    ·exact hs'.2.2 z (kq0.2 hz) y (by simp)
   ·have e1:=g2.app (kb6 (l:=[y]));have e2:=(kb6 (ky:=ky) (l:=r.reverse)).app (Fil.swap (ky:=ky) (X:=[x]) (Y:=[y]) fun a ha b hb=>by rw[ki8.1 ha,ki8.1 hb];exact z22 h hlt);rw[kf1]at e1;have:=e1.trans e2
    rwa [←kf1]at this
  ·rename_i hlt;have hle:Lq lt ky y x:=by unfold Lq;simpa using hlt
   rw[km4,km4];refine⟨jQ.2 ⟨hs,kq4 _ _,fun z hz u hu=>?_⟩,kb6⟩;rw[ki8.1 hu];rcases kh1.1 hz with hz|hz
   ·exact(hs'.2.2 z hz y (by simp)).trans h hle
   ·rw[ki8.1 hz];exact hle
theorem zD4 (h:gQ lt) (l:List α):Srd lt ky (bL lt ky l)∧Fil ky (bL lt ky l) l:=by
 have:∀(l p:List α),Srd lt ky p.reverse→Srd lt ky (l.foldl (fun acc x=>dH lt ky x acc) p).reverse∧Fil ky (l.foldl (fun acc x=>dH lt ky x acc) p).reverse (p.reverse++l):=by
  intro l;induction l with
  |nil=>intro p hp;simp only[List.foldl_nil,ki0];exact⟨hp,kb6⟩
  |cons x l ih=>
   intro p hp;obtain⟨g1,g2⟩:=z24 h (x:=x) hp;obtain⟨k1,k2⟩:=ih _ g1;refine⟨k1,k2.trans ?_⟩;have:=g2.app (kb6 (l:=l))
   rwa [kf1]at this
 have g:=this l [] (by simp[Srd]);unfold bL;simpa using g
theorem jT6 (h:gQ lt) {l z:List α} (h1:Srd lt ky z) (h2:Fil ky z l):z=bL lt ky l:=
 z23 h h1 (zD4 h l).1 (h2.trans (zD4 h l).2.symm)
def Mrg (lt:ByteArray→ByteArray→Bool) (ky:α→ByteArray) (X Y Z:List α):Prop:=Srd lt ky Z∧Fil ky Z (X++Y)
theorem kd0 {X:List α} (h:Srd lt ky X):Mrg lt ky X [] X:=⟨h,by rw[ki0];exact kb6⟩
theorem Mrg.right {Y:List α} (h:Srd lt ky Y):Mrg lt ky [] Y Y:=⟨h,kb6⟩
theorem kd1 (h:gQ lt) {X1 X2 Y1 Y2 Z1 Z2:List α} (hX:Srd lt ky (X1++X2)) (hY:Srd lt ky (Y1++Y2)) (h1:∀y∈Y1,∀x∈X2,lt (ky y) (ky x)=true) (h2:∀x∈X1,∀y∈Y2,Lq lt ky x y)
  (m1:Mrg lt ky X1 Y1 Z1) (m2:Mrg lt ky X2 Y2 Z2):Mrg lt ky (X1++X2) (Y1++Y2) (Z1++Z2):=by
 have hX':=jQ.1 hX;have hY':=jQ.1 hY;refine⟨jQ.2 ⟨m1.1,m2.1,fun a ha b hb=>?_⟩,?_⟩
 ·rcases kh1.1 (m1.2.mem ha)with ha|ha<;>rcases kh1.1 (m2.2.mem hb)with hb|hb
  ·exact hX'.2.2 a ha b hb
  ·exact h2 a ha b hb
  ·exact Lq.of_lt h (h1 a ha b hb)
  ·exact hY'.2.2 a ha b hb
 ·have e1:=m1.2.app m2.2;have e2:=(kb6 (ky:=ky) (l:=X1)).app ((Fil.swap (ky:=ky) (X:=Y1) (Y:=X2) fun y hy x hx=>z22 h (h1 y hy x hx)).app (kb6 (l:=Y2)));simp only[kf1]at e1 e2 ⊢;exact e1.trans e2
theorem Mrg.ins (h:gQ lt) {U V:List α} {x:α} (hs:Srd lt ky (U++V)) (h1:∀v∈V,lt (ky x) (ky v)=true) (h2:∀u∈U,Lq lt ky u x):Mrg lt ky (U++V) [x] (U++x::V):=by
 have hs':=jQ.1 hs;have:=kd1 h (X1:=U) (X2:=V) (Y1:=[x]) (Y2:=[]) (Z1:=U++[x]) (Z2:=V) hs (by simp[Srd]) (fun y hy v hv=>by rw[ki8.1 hy];exact h1 v hv) (fun _ _ _ hy=>by cases hy)
  ⟨jQ.2 ⟨hs'.1,kq4 _ _,fun a ha b hb=>by rw[ki8.1 hb];exact h2 a ha⟩,kb6⟩ (kd0 hs'.2.1)
 simpa using this
theorem Mrg.ahead (h:gQ lt) {U V:List α} {x:α} (hs:Srd lt ky (U++V)) (h1:∀u∈U,lt (ky u) (ky x)=true) (h2:∀v∈V,Lq lt ky x v):Mrg lt ky [x] (U++V) (U++x::V):=by
 have hs':=jQ.1 hs;have:=kd1 h (X1:=[]) (X2:=[x]) (Y1:=U) (Y2:=V) (Z1:=U) (Z2:=x::V) (by simp[Srd]) hs (fun y hy v hv=>by rw[ki8.1 hv];exact h1 y hy) (fun _ hx=>by cases hx)
  (Mrg.right hs'.1) ⟨km8.2 ⟨h2,hs'.2.1⟩,kb6⟩
 simpa using this
theorem zD5 (h:gQ lt) {U:List α} {x:α} (hs:Srd lt ky U) (hl:∀u,U.getLast?=some u→Lq lt ky u x):∀u∈U,Lq lt ky u x:=by
 intro u hu;rcases ku7 U with rfl|⟨V,w,rfl⟩
 ·cases hu
 ·have hw:=hl w (by simp);simp only[ku8]at hs hu;rcases kh1.1 hu with hv|hv
  ·have hs':=jQ.1 hs;exact(hs'.2.2 u hv w (by simp)).trans h hw
  ·rw[ki8.1 hv];exact hw
theorem z25 (h:gQ lt) {U:List α} {x:α} (hs:Srd lt ky U) (hl:∀u,U.getLast?=some u→lt (ky u) (ky x)=true):∀u∈U,lt (ky u) (ky x)=true:=by
 intro u hu;rcases ku7 U with rfl|⟨V,w,rfl⟩
 ·cases hu
 ·have hw:=hl w (by simp);simp only[ku8]at hs hu;rcases kh1.1 hu with hv|hv
  ·have hs':=jQ.1 hs;have h1:Lq lt ky u w:=hs'.2.2 u hv w (by simp);cases e:lt (ky u) (ky w)with
   |true=>exact h.trans _ _ _ e hw
   |false=>rw[h.tri _ _ e h1];exact hw
  ·rw[ki8.1 hv];exact hw
theorem z26 (h:gQ lt) {U:List α} {x:α} (hs:Srd lt ky U) (hl:∀u,U[0]?=some u→lt (ky x) (ky u)=true):∀u∈U,lt (ky x) (ky u)=true:=by
 intro u hu;cases U with
 |nil=>cases hu
 |cons w V=>
  have hw:=hl w rfl;rcases kg9.1 hu with rfl|hv
  ·exact hw
  ·have h1:Lq lt ky w u:=(km8.1 hs).1 u hv;cases e:lt (ky w) (ky u)with
   |true=>exact h.trans _ _ _ hw e
   |false=>rw[←h.tri _ _ e h1];exact hw
theorem z27 (h:gQ lt) {U:List α} {x:α} (hs:Srd lt ky U) (hl:∀u,U[0]?=some u→Lq lt ky x u):∀u∈U,Lq lt ky x u:=by
 intro u hu;cases U with
 |nil=>cases hu
 |cons w V=>
  have hw:=hl w rfl;rcases kg9.1 hu with rfl|hv
  ·exact hw
  ·exact hw.trans h ((km8.1 hs).1 u hv)
end
end Go.Vt.Al
namespace Go.Vt.Tryz
open Go.Vt.Al
def bZ:List UInt8→List UInt8→Int
 |[],[]=>0
 |[],_::_=>-1
 |_::_,[]=>1
 |x::a,y::b=>if x.toNat<y.toNat then -1 else if y.toNat<x.toNat then 1 else bZ a b
def ltN (a b:ByteArray):Bool:=decide (bZ a.data.toList b.data.toList<0)
theorem yG:∀a b:List UInt8,bZ b a=- bZ a b
 |[],[]=>rfl
 |[],_::_=>rfl
 |_::_,[]=>rfl
 |x::a,y::b=>by
  simp only[bZ];by_cases h1:x.toNat<y.toNat
  ·rw[if_pos h1,if_neg (by omega),if_pos h1];rfl
  ·by_cases h2:y.toNat<x.toNat
   ·rw[if_pos h2,if_neg h1,if_pos h2]
   ·rw[if_neg h1,if_neg h2,if_neg h2,if_neg h1,yG a b]
theorem zD6:∀a b:List UInt8,bZ a b=0→a=b
 |[],[],_=>rfl
 |[],_::_,h=>by simp[bZ]at h
 |_::_,[],h=>by simp[bZ]at h
 |x::a,y::b,h=>by
  simp only[bZ]at h;split at h
  ·omega
  ·split at h
   ·omega
   ·have hx:x=y:=UInt8.toNat_inj.1 (by omega);rw[hx,zD6 a b h]
theorem zD7:∀a:List UInt8,bZ a a=0
 |[]=>rfl
 |x::a=>by simp only[bZ];rw[if_neg (by omega),if_neg (by omega),zD7 a]
theorem z29:∀a b c:List UInt8,bZ a b<0→bZ b c<0→bZ a c<0
 |[],[],_,h,_=>by simp[bZ]at h
 |[],_::_,[],_,h=>by simp[bZ]at h
 |[],_::_,_::_,_,_=>by simp[bZ]
 |_::_,[],_,h,_=>by simp[bZ]at h
 |_::_,_::_,[],_,h=>by simp[bZ]at h
 |x::a,y::b,z::c,h,g=>by
  simp only[bZ]at h g ⊢;by_cases h1:x.toNat<z.toNat
  ·rw[if_pos h1];omega
  ·rw[if_neg h1];by_cases h2:z.toNat<x.toNat
   ·rw[if_pos h2];by_cases h3:x.toNat<y.toNat
    ·rw[if_neg (by omega),if_pos (by omega)]at g;omega
    ·rw[if_neg h3]at h;by_cases h4:y.toNat<x.toNat
     ·rw[if_pos h4]at h;omega
     ·rw[if_neg (by omega),if_pos (by omega)]at g;omega
   ·rw[if_neg h2];by_cases h3:x.toNat<y.toNat
    ·rw[if_neg (by omega),if_pos (by omega)]at g;omega
    ·rw[if_neg h3]at h;by_cases h4:y.toNat<x.toNat
     ·rw[if_pos h4]at h;omega
     ·rw[if_neg h4]at h;rw[if_neg (by omega),if_neg (by omega)]at g;exact z29 a b c h g
theorem zD8:∀a b:List UInt8,bZ a b=-1∨bZ a b=0∨bZ a b=1
 |[],[]=>.inr (.inl rfl)
 |[],_::_=>.inl rfl
 |_::_,[]=>.inr (.inr rfl)
 |x::a,y::b=>by
  simp only[bZ];split
  ·exact .inl rfl
  ·split
   ·exact .inr (.inr rfl)
   ·exact zD8 a b
theorem zD9:gQ ltN:=by
 refine⟨fun a=>?_,fun a b c h g=>?_,fun a b h g=>?_⟩
 ·unfold ltN;rw[zD7];rfl
 ·unfold ltN at *;exact decide_eq_true (z29 _ _ _ (of_decide_eq_true h) (of_decide_eq_true g))
 ·unfold ltN at *;have h1:=of_decide_eq_false h;have h2:=of_decide_eq_false g;rw[yG a.data.toList b.data.toList]at h2;have:=zD6 _ _ (show bZ a.data.toList b.data.toList=0 by omega);cases a;cases b;simp only at this;rw[Array.toList_inj.1 this]
theorem zE0:∀a b:List UInt8,Op.bytesLess a b=decide (bZ a b<0)
 |[],[]=>by simp[Op.bytesLess,bZ]
 |[],_::_=>by simp[Op.bytesLess,bZ]
 |_::_,[]=>by simp[Op.bytesLess,bZ]
 |x::a,y::b=>by
  simp only[Op.bytesLess,bZ,zE0 a b];by_cases h1:x.toNat<y.toNat
  ·have:x<y:=UInt8.lt_iff_toNat_lt.2 h1;simp[this,h1]
  ·have n1:¬x<y:=fun h=>h1 (UInt8.lt_iff_toNat_lt.1 h);by_cases h2:y.toNat<x.toNat
   ·have n2:¬x=y:=fun h=>by rw[h]at h2;omega
    simp[n1,n2,h1,h2]
   ·have n2:x=y:=UInt8.toNat_inj.1 (by omega);subst n2;simp
theorem ze5 (a:ByteArray):a.toList=a.data.toList:=by rw[ByteArray.toList_eq]
theorem jT7 (a b:ByteArray):Op.bytesLess a.toList b.toList=ltN a b:=by rw[ze5,ze5,zE0];rfl
theorem jT8 (a b:ByteArray):(Op.bytesLess a.toList b.toList||a.toList == b.toList) = !ltN b a:=by
 rw[ze5,ze5,zE0];unfold ltN;rw[yG a.data.toList b.data.toList];rcases zD8 a.data.toList b.data.toList with h|h|h
 ·rw[h];simp
 ·have:=zD6 _ _ h;rw[h,this];simp
 ·have:¬a.data.toList=b.data.toList:=fun e=>by rw[e,zD7]at h;cases h
  rw[h,beq_false_of_ne this];rfl
theorem z30 {α β:Type} {lt:ByteArray→ByteArray→Bool} {nm:β→ByteArray} {f:α→β} {x:α}:∀l:List α,dH lt nm (f x) (l.map f)=(dH lt (fun a=>nm (f a)) x l).map f
 |[]=>rfl
 |y::r=>by
  simp only[ke5,dH];split
  ·rw[z30 r];rfl
  ·rfl
theorem jT9 {α β:Type} {lt:ByteArray→ByteArray→Bool} {nm:β→ByteArray} {f:α→β} (l:List α):bL lt nm (l.map f)=(bL lt (fun a=>nm (f a)) l).map f:=by
 have:∀(l p:List α),(l.map f).foldl (fun acc x=>dH lt nm x acc) (p.map f)=(l.foldl (fun acc x=>dH lt (fun a=>nm (f a)) x acc) p).map f:=by
  intro l;induction l with
  |nil=>intro p;rfl
  |cons x l ih=>intro p;simp only[ke5,kq5,z30,ih]
 unfold bL;have h:=this l [];rw[List.map_nil]at h;rw[h,List.map_reverse]
end Go.Vt.Tryz
