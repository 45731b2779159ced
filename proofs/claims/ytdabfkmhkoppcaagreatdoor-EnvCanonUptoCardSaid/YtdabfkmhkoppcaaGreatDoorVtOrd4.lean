import Derived.Test.YtdabfkmhkoppcaaGreatDoorVtOrd3
set_option linter.all false
open Array renaming getD→kx7,getElem?_eq_some_iff→kt0
open Bool renaming and_eq_true→ks2,false_or→kG5,not_true→kB6,or_eq_true→kx0
open List renaming Sublist→kK4,all_eq_true→ku0,any_eq_true→kE5,append_of_mem→kI8,eq_nil_iff_forall_not_mem→kB8,eq_nil_of_length_eq_zero→kF3,getElem?_eq_getElem→kr1,getElem?_eq_some_iff→kp9,mem_append→kt5,mem_cons→kt6,mem_of_getElem?→kq0,mem_range→kx6,nodup_append→kJ1,nodup_cons→kE0,range→kt4,sublist_cons_self→kG8
open Nat renaming lt_or_ge→ks3,not_lt→kL5,strongRecOn→kG0
namespace Go.Vt
set_option linter.unusedSectionVars false
set_option linter.unusedVariables false
variable [cJ]
variable {P:Program} {ops:List Oper} {ob:Nat→List Nat}
variable {w0:World} {μ0:Pl} {h0:aB} {N:Nat} {df:List Deferred}
def jS (R:Nat→Nat→Bool):List Nat→Bool
 |[]=>true
 |i::r=>r.all (R i)&&jS R r
def sZ (ops:List Oper) (m:List Nat):Bool:=(kt4 ops.length).all fun j=>(kt4 ops.length).all fun k=>
 !(m.getD j 0).testBit k||(match ops[j]? with|some o=>o.after.toList.any fun e=>Region.binds .any e&&(e.on == k||(m.getD e.on 0).testBit k)|none=>false)
def vE (ops:List Oper):Bool:=(kt4 ops.length).all fun j=>match ops[j]? with
 |some o=>o.after.toList.all fun e=>!Region.binds .any e||e.on<j
 |none=>true
def tA (P:Program) (ops:List Oper) (ob:Nat→List Nat) (m:List Nat) (i j:Nat):Bool:=(m.getD j 0).testBit i||oU P ops ob i j
def xM (P:Program) (ops:List Oper) (ob:Nat→List Nat) (σ:List Nat):Bool:=
 bO σ&&σ.length == ops.length&&(kt4 ops.length).all σ.contains&&σ.all (·<ops.length)&&vE ops&&sZ ops (Region.before ops.toArray).toList&&jS (tA P ops ob (Region.before ops.toArray).toList) σ
theorem xN {R:Nat→Nat→Bool} {σ σ':List Nat} (hs:σ'.Sublist σ) (h:jS R σ=true):jS R σ'=true:=by
 induction hs with
 |slnil=>rfl
 |cons a _ ih=>simp only[jS,ks2]at h;exact ih h.2
 |cons_cons a hs ih=>
  simp only[jS,ks2]at h ⊢;exact⟨ku0.2 fun x hx=>ku0.1 h.1 x (hs.subset hx),ih h.2⟩
theorem zq4 {R:Nat→Nat→Bool} {j:Nat} {R2:List Nat}:∀{R1:List Nat},jS R (R1++j::R2)=true→∀i∈R1,R i j=true
 |[],_,i,hi=>by cases hi
 |x::R1,h,i,hi=>by
  simp only[List.cons_append,jS,ks2]at h;rcases kt6.1 hi with rfl|hi
  ·exact ku0.1 h.1 j (by simp)
  ·exact zq4 h.2 i hi
theorem nodup_iff:∀{l:List Nat},bO l=true↔l.Nodup
 |[]=>by simp[bO]
 |x::r=>by
  simp only[bO,ks2,kE0,nodup_iff (l:=r)];simp
theorem xO {r:Option Nat} {n:Nat} {K:Sl→aB→Prop} {Q:Exit→Act→World→Prop} {m:List Nat} (hK:∀T T' h,iA T T'→K T h→K T' h) (hk:∀T' h' a' w',K T' h'→St w0 μ0 h0 N df T' h' a' w'→Q .normal a' w')
  (hd:∀o∈ops,∀d,o.dst=some d→d<N) (hdown:vE ops=true) (hshown:sZ ops m=true) :
  ∀(fuel:Nat) {listed:Array Bool} {σ:List Nat} {W:iI} {T:Sl} {h:aB} {a:Act} {w:World},listed.size=ops.length→(∀i,i∈σ↔i<ops.length∧listed.getD i true=false)→
  (∀j k,j<ops.length→listed.getD j true=true→(m.getD j 0).testBit k=true→k<ops.length→listed.getD k true=true)→σ.Nodup→σ.length≤fuel→jS (tA P ops ob m) σ=true→
  dQ P ops ob σ W T h K→St w0 μ0 h0 N df T h a w→wpAnyIn (FW r) n P .any ops.toArray Q fuel listed a w:=by
 have done:∀{listed:Array Bool} {σ:List Nat},(∀i,i∈σ↔i<ops.length∧listed.getD i true=false)→Region.ready .any ops.toArray listed=[]→listed.size=ops.length→σ=[]:=by
  intro listed σ hσ hr hsz;have hall:∀i,i<ops.length→listed.getD i true=true:=by
   intro i;induction i using kG0 with
   |_ i ih=>
    intro hi;cases hx:listed.getD i true with
    |true=>rfl
    |false=>
     exfalso;have:i∈Region.ready .any ops.toArray listed:=by
      rw[mem_ready];refine⟨hx,ops[i]'hi,by simp[hi],fun e he hb=>?_⟩;have hlt:e.on<i:=by
       have h1:=ku0.1 hdown i (kx6.2 hi);rw[kr1 hi]at h1;have h2:=ku0.1 h1 e (by simpa using he);simp[hb]at h2;exact h2
      have hlt2:e.on<listed.size:=by omega
      have:=ih e.on hlt (by omega);simpa[kx7,hlt2]using this
     rw[hr]at this;cases this
  rw[kB8];intro i hi;have h1:=(hσ i).1 hi;rw[hall i h1.1]at h1;cases h1.2
 intro fuel;induction fuel with
 |zero=>
  intro listed σ W T h a w hsz hσ hcl hnd hlen hp hv s;have h0:σ=[]:=kF3 (by omega);subst h0;refine⟨?_,hk _ _ _ _ hv s⟩;rw[kB8];intro i hi;obtain⟨h1,o,ho,_⟩:=mem_ready.1 hi;have hlt:i<ops.length:=by
   have:=(kt0.1 ho).1;simpa using this
  exact absurd ((hσ i).2 ⟨hlt,h1⟩) (by simp)
 |succ fuel ih=>
  intro listed σ W T h a w hsz hσ hcl hnd hlen hp hv s;refine⟨fun hr=>?_,fun j hj=>?_⟩
  ·have h0:=done hσ hr hsz;subst h0;exact hk _ _ _ _ hv s
  ·obtain⟨h1,o,ho,hall⟩:=mem_ready.1 hj;have hlt:j<ops.length:=by
    have:=(kt0.1 ho).1;simpa using this
   have hol:ops[j]?=some o:=by simpa using ho
   have hjσ:j∈σ:=(hσ j).2 ⟨hlt,h1⟩;obtain⟨R1,R2,rfl⟩:=kI8 hjσ;have hbef:∀k,(m.getD j 0).testBit k=true→k<ops.length→listed.getD k true=true:=by
    intro k hkb hkl;have h2:=ku0.1 (ku0.1 hshown j (kx6.2 hlt)) k (kx6.2 hkl);rw[hkb,hol]at h2;simp only[kB6,kG5,kE5,ks2,kx0,beq_iff_eq]at h2;obtain⟨e,he,hb,hek⟩:=h2;have hle:=hall e (by simpa using he) hb;have hlt2:e.on<listed.size:=by
     rcases ks3 e.on listed.size with h|h
     ·exact h
     ·simp[kx7,kL5.2 h]at hle
    have hle':listed.getD e.on true=true:=by simpa[kx7,hlt2]using hle
    rcases hek with rfl|hek
    ·exact hle'
    ·exact hcl e.on k (by omega) hle' hek hkl
   have hpair:=zq4 hp;have hok:∀i∈R1,oU P ops ob i j=true:=by
    intro i hi;have h2:=hpair i hi;unfold tA at h2;rw[kx0]at h2;rcases h2 with h2|h2
    ·have hiσ:=(hσ i).1 (by simp[hi]);have:=hbef i h2 hiσ.1;rw[hiσ.2]at this;cases this
    ·exact h2
   have hv':=zq3 hK R1 hok hv;have hsub:(R1++R2).Sublist (R1++j::R2):=kK4.append_left (kG8 j R2) R1;have hnd':(R1++R2).Nodup:=hnd.sublist hsub;have hjn:j∉R1++R2:=by
    have:=kJ1.1 hnd;have h3:=kE0.1 this.2.1;simp only[kt5,not_or];exact⟨fun hj1=>this.2.2 j hj1 j (by simp) rfl,h3.1⟩
   have hsz':(listed.setIfInBounds j true).size=ops.length:=by simpa using hsz
   have hg:∀i,(listed.setIfInBounds j true).getD i true=if i=j then true else listed.getD i true:=by
    intro i;split
    ·rename_i e;subst e;simp[kx7,show i<listed.size by omega]
    ·rename_i e;exact getD_set_ne true (fun h=>e h.symm)
   have hσ':∀i,i∈R1++R2↔i<ops.length∧(listed.setIfInBounds j true).getD i true=false:=by
    intro i;rw[hg];constructor
    ·intro hi;have h2:=(hσ i).1 (hsub.subset hi);refine⟨h2.1,?_⟩;rw[if_neg (fun e:i=j=>hjn (by rw[←e];exact hi))];exact h2.2
    ·rintro⟨h2,h3⟩;split at h3
     ·cases h3
     ·rename_i e;have h4:=(hσ i).2 ⟨h2,h3⟩;simp only[kt5,kt6]at h4 ⊢;rcases h4 with h4|h4|h4
      ·exact .inl h4
      ·exact absurd h4 e
      ·exact .inr h4
   have hcl':∀j' k,j'<ops.length→(listed.setIfInBounds j true).getD j' true=true→(m.getD j' 0).testBit k=true→k<ops.length→(listed.setIfInBounds j true).getD k true=true:=by
    intro j' k hj' hl' hb hkl;rw[hg]at hl' ⊢;split
    ·rfl
    ·by_cases e:j'=j
     ·subst e;exact hbef k hb hkl
     ·rw[if_neg e]at hl';exact hcl j' k hj' hl' hb hkl
   have hp':=xN hsub hp;have hlen':(R1++R2).length≤fuel:=by simp at hlen ⊢;omega
   rw[dQ]at hv';simp only[hol]at hv';unfold wpOpIn;rw[ho];split at hv'
   ·exact nW s (hd o (kq0 hol)) hv' fun T' h' a' w' hv'' s'=>ih hsz' hσ' hcl' hnd' hlen' hp' hv'' s'
   ·exact nW s (hd o (kq0 hol)) hv' fun T' h' a' w' hv'' s'=>ih hsz' hσ' hcl' hnd' hlen' hp' hv''.2 s'
theorem zq5 {K:Sl→aB→Prop} {m:List Nat} (hK:∀T T' h,iA T T'→K T h→K T' h) (hshown:sZ ops m=true) {listed:Array Bool} {σ:List Nat} {W:iI} {T:Sl} {h:aB} {j:Nat} {R:Nat→Nat→Bool}
  (hsz:listed.size=ops.length) (hσ:∀i,i∈σ↔i<ops.length∧listed.getD i true=false)
  (hcl:∀j k,j<ops.length→listed.getD j true=true→(m.getD j 0).testBit k=true→k<ops.length→listed.getD k true=true) (hnd:σ.Nodup) (hp:jS R σ=true) (hR:∀i,i∈σ→R i j=true→tA P ops ob m i j=true)
  (hv:dQ P ops ob σ W T h K) (hj:j∈Region.ready .any ops.toArray listed) :
  ∃o σ',ops[j]?=some o∧dQ P ops ob (j::σ') W T h K∧(∀i,i∈σ'↔i<ops.length∧(listed.setIfInBounds j true).getD i true=false)∧σ'.Nodup∧σ'.length+1=σ.length∧σ'.Sublist σ∧j∉σ'∧j∈σ∧
   (∀j' k,j'<ops.length→(listed.setIfInBounds j true).getD j' true=true→(m.getD j' 0).testBit k=true→k<ops.length→(listed.setIfInBounds j true).getD k true=true):=by
 obtain⟨h1,o,ho,hall⟩:=mem_ready.1 hj;have hlt:j<ops.length:=by
  have:=(kt0.1 ho).1;simpa using this
 have hol:ops[j]?=some o:=by simpa using ho
 have hjσ:j∈σ:=(hσ j).2 ⟨hlt,h1⟩;obtain⟨R1,R2,hRR⟩:=kI8 hjσ;subst hRR;have hbef:∀k,(m.getD j 0).testBit k=true→k<ops.length→listed.getD k true=true:=by
  intro k hkb hkl;have h2:=ku0.1 (ku0.1 hshown j (kx6.2 hlt)) k (kx6.2 hkl);rw[hkb,hol]at h2;simp only[kB6,kG5,kE5,ks2,kx0,beq_iff_eq]at h2;obtain⟨e,he,hb,hek⟩:=h2;have hle:=hall e (by simpa using he) hb;have hlt2:e.on<listed.size:=by
   rcases ks3 e.on listed.size with h|h
   ·exact h
   ·simp[kx7,kL5.2 h]at hle
  have hle':listed.getD e.on true=true:=by simpa[kx7,hlt2]using hle
  rcases hek with rfl|hek
  ·exact hle'
  ·exact hcl e.on k (by omega) hle' hek hkl
 have hpair:=zq4 hp;have hok:∀i∈R1,oU P ops ob i j=true:=by
  intro i hi;have h2:=hR i (by simp[hi]) (hpair i hi);unfold tA at h2;rw[kx0]at h2;rcases h2 with h2|h2
  ·have hiσ:=(hσ i).1 (by simp[hi]);have:=hbef i h2 hiσ.1;rw[hiσ.2]at this;cases this
  ·exact h2
 have hv':=zq3 hK R1 hok hv;have hsub:(R1++R2).Sublist (R1++j::R2):=kK4.append_left (kG8 j R2) R1;have hnd':(R1++R2).Nodup:=hnd.sublist hsub;have hjn:j∉R1++R2:=by
  have:=kJ1.1 hnd;have h3:=kE0.1 this.2.1;simp only[kt5,not_or];exact⟨fun hj1=>this.2.2 j hj1 j (by simp) rfl,h3.1⟩
 have hsz':(listed.setIfInBounds j true).size=ops.length:=by simpa using hsz
 have hg:∀i,(listed.setIfInBounds j true).getD i true=if i=j then true else listed.getD i true:=by
  intro i;split
  ·rename_i e;subst e;simp[kx7,show i<listed.size by omega]
  ·rename_i e;exact getD_set_ne true (fun h=>e h.symm)
 have hσ':∀i,i∈R1++R2↔i<ops.length∧(listed.setIfInBounds j true).getD i true=false:=by
  intro i;rw[hg];constructor
  ·intro hi;have h2:=(hσ i).1 (hsub.subset hi);refine⟨h2.1,?_⟩;rw[if_neg (fun e:i=j=>hjn (by rw[←e];exact hi))];exact h2.2
  ·rintro⟨h2,h3⟩;split at h3
   ·cases h3
   ·rename_i e;have h4:=(hσ i).2 ⟨h2,h3⟩;simp only[kt5,kt6]at h4 ⊢;rcases h4 with h4|h4|h4
    ·exact .inl h4
    ·exact absurd h4 e
    ·exact .inr h4
 have hcl':∀j' k,j'<ops.length→(listed.setIfInBounds j true).getD j' true=true→(m.getD j' 0).testBit k=true→k<ops.length→(listed.setIfInBounds j true).getD k true=true:=by
  intro j' k hj' hl' hb hkl;rw[hg]at hl' ⊢;split
  ·rfl
  ·by_cases e:j'=j
   ·subst e;exact hbef k hb hkl
   ·rw[if_neg e]at hl';exact hcl j' k hj' hl' hb hkl
 refine⟨o,R1++R2,hol,hv',hσ',hnd',by simp;omega,hsub,hjn,by simp,hcl'⟩
def pP (P:Program) (ops:List Oper) (ob:Nat→List Nat) (m:List Nat) (p q i j:Nat):Bool:=tA P ops ob m i j||(i == p&&j == q)
theorem zq6 {m:List Nat} {p q:Nat}:∀{σ:List Nat},(p∉σ∨q∉σ)→jS (pP P ops ob m p q) σ=true→jS (tA P ops ob m) σ=true
 |[],_,_=>rfl
 |i::r,hn,h=>by
  simp only[jS,ks2]at h ⊢;refine⟨ku0.2 fun x hx=>?_,zq6 (by
   rcases hn with hn|hn
   ·exact .inl fun h=>hn (by simp[h])
   ·exact .inr fun h=>hn (by simp[h])) h.2⟩
  have:=ku0.1 h.1 x hx;unfold pP at this;rw[kx0]at this;rcases this with h1|h1
  ·exact h1
  ·simp only[ks2,beq_iff_eq]at h1;obtain⟨rfl,rfl⟩:=h1;rcases hn with hn|hn
   ·exact absurd (by simp) hn
   ·exact absurd (by simp[hx]) hn
theorem Ran.det {T:Sl} {h:aB} {o:Oper} {u v:V} (h1:Ran P ops o T h u) (h2:Ran P ops o T h v):u=v:=by
 unfold Ran at *;split at h1
 ·rename_i e;simp only[e]at h2;rw[h1]at h2;cases h2;rfl
 ·rename_i g want e;simp only[e]at h2;split at h1
  ·rename_i b hb;simp only[hb]at h2;by_cases c:b=some want
   ·have a1:=h1.1 c;have a2:=h2.1 c;rw[a1]at a2;cases a2;rfl
   ·rw[h1.2 c,h2.2 c]
  ·exact h1.elim
theorem js4 {r:Option Nat} {n:Nat} {K:Sl→aB→Prop} {Q:Exit→Act→World→Prop} {m:List Nat} {ob':Nat→List Nat} {p q:Nat} (hpq:p≠q) (hK:∀T T' h,iA T T'→K T h→K T' h) (hk:∀T' h' a' w',K T' h'→St w0 μ0 h0 N df T' h' a' w'→Q .normal a' w')
  (hd:∀o∈ops,∀d,o.dst=some d→d<N) (hdown:vE ops=true) (hshown:sZ ops m=true) (hrest:∀(j:Nat) (o:Oper),ops[j]?=some o→j≠p→j≠q→ro o.op=true∨(m.getD j 0).testBit p=true∨(m.getD j 0).testBit q=true) :
  ∀(fuel:Nat) {listed:Array Bool} {σ σ':List Nat} {W W':iI} {T:Sl} {h:aB} {a:Act} {w:World},listed.size=ops.length→(∀i,i∈σ↔i<ops.length∧listed.getD i true=false)→(∀i,i∈σ'↔i<ops.length∧listed.getD i true=false)→
  (∀j k,j<ops.length→listed.getD j true=true→(m.getD j 0).testBit k=true→k<ops.length→listed.getD k true=true)→σ.Nodup→σ'.Nodup→σ.length≤fuel→σ'.length≤fuel→
  jS (pP P ops ob m p q) σ=true→jS (pP P ops ob' m q p) σ'=true→p∈σ→q∈σ→
  dQ P ops ob σ W T h K→dQ P ops ob' σ' W' T h K→St w0 μ0 h0 N df T h a w→wpAnyIn (FW r) n P .any ops.toArray Q fuel listed a w:=by
 intro fuel;induction fuel with
 |zero=>
  intro listed σ σ' W W' T h a w hsz hσ hσ' hcl hnd hnd' hlen hlen' hp hp' hpσ;have h0:σ=[]:=kF3 (by omega);subst h0;cases hpσ
 |succ fuel ih=>
  intro listed σ σ' W W' T h a w hsz hσ hσ' hcl hnd hnd' hlen hlen' hp hp' hpσ hqσ hv hv' s;refine⟨fun hr=>?_,fun j hj=>?_⟩
  ·-- there is always one that may come up: the least
   exfalso;have hall:∀i,i<ops.length→listed.getD i true=true:=by
    intro i;induction i using kG0 with
    |_ i ih=>
     intro hi;cases hx:listed.getD i true with
     |true=>rfl
     |false=>
      exfalso;have:i∈Region.ready .any ops.toArray listed:=by
       rw[mem_ready];refine⟨hx,ops[i]'hi,by simp[hi],fun e he hb=>?_⟩;have hlt:e.on<i:=by
        have h1:=ku0.1 hdown i (kx6.2 hi);rw[kr1 hi]at h1;have h2:=ku0.1 h1 e (by simpa using he);simp[hb]at h2;exact h2
       have hlt2:e.on<listed.size:=by omega
       have:=ih e.on hlt (by omega);simpa[kx7,hlt2]using this
      rw[hr]at this;cases this
   have h1:=(hσ p).1 hpσ;rw[hall p h1.1]at h1;cases h1.2
  ·have hsz':(listed.setIfInBounds j true).size=ops.length:=by simpa using hsz
   by_cases hjq:j=q
   ·-- the second first: the second order
    subst hjq;obtain⟨o,τ,hol,hv1,hτ,hndτ,hlτ,hsub,hjn,_,hcl'⟩:=zq5 (ob:=ob') hK hshown hsz hσ' hcl hnd' hp' (fun i hi hR=>by
     unfold pP at hR;rw[kx0]at hR;rcases hR with hR|hR
     ·exact hR
     ·simp only[ks2,beq_iff_eq]at hR;exact absurd hR.2.symm hpq) hv' hj
    rw[dQ]at hv1;simp only[hol]at hv1;unfold wpOpIn;rw[show ops.toArray[j]?=some o by simpa using hol];have hpτ:=zq6 (.inl hjn) (xN hsub hp');split at hv1
    ·exact nW s (hd o (kq0 hol)) hv1 fun T' h' a' w' hv'' s'=>xO hK hk hd hdown hshown fuel hsz' hτ hcl' hndτ (by omega) hpτ hv'' s'
    ·exact nW s (hd o (kq0 hol)) hv1 fun T' h' a' w' hv'' s'=>xO hK hk hd hdown hshown fuel hsz' hτ hcl' hndτ (by omega) hpτ hv''.2 s'
   ·obtain⟨o,τ,hol,hv1,hτ,hndτ,hlτ,hsub,hjn,_,hcl'⟩:=zq5 (ob:=ob) hK hshown hsz hσ hcl hnd hp (fun i hi hR=>by
     unfold pP at hR;rw[kx0]at hR;rcases hR with hR|hR
     ·exact hR
     ·simp only[ks2,beq_iff_eq]at hR;exact absurd hR.2 hjq) hv hj
    rw[dQ]at hv1;simp only[hol]at hv1;by_cases hjp:j=p
    ·subst hjp;unfold wpOpIn;rw[show ops.toArray[j]?=some o by simpa using hol];have hpτ:=zq6 (.inl hjn) (xN hsub hp);split at hv1
     ·exact nW s (hd o (kq0 hol)) hv1 fun T' h' a' w' hv'' s'=>xO hK hk hd hdown hshown fuel hsz' hτ hcl' hndτ (by omega) hpτ hv'' s'
     ·exact nW s (hd o (kq0 hol)) hv1 fun T' h' a' w' hv'' s'=>xO hK hk hd hdown hshown fuel hsz' hτ hcl' hndτ (by omega) hpτ hv''.2 s'
    ·obtain⟨o',τ',hol',hv1',hτ',hndτ',hlτ',hsub',hjn',_,_⟩:=zq5 (ob:=ob') hK hshown hsz hσ' hcl hnd' hp' (fun i hi hR=>by
      unfold pP at hR;rw[kx0]at hR;rcases hR with hR|hR
      ·exact hR
      ·simp only[ks2,beq_iff_eq]at hR;exact absurd hR.2 hjp) hv' hj
     rw[hol]at hol';cases hol';have hlt:j<ops.length:=(kp9.1 hol).1;have hpl:=(hσ p).1 hpσ;have hql:=(hσ q).1 hqσ;have hjl:(listed.setIfInBounds j true).getD j true=true:=by simp[kx7,show j<listed.size by omega]
     have not:∀k,k≠j→k<ops.length→listed.getD k true=false→(m.getD j 0).testBit k=true→False:=by
      intro k hkj hkl hkf hkb;have:=hcl' j k hlt hjl hkb hkl;rw[getD_set_ne true (fun h=>hkj h.symm),hkf]at this;cases this
     have hro:ro o.op=true:=by
      rcases hrest j o hol hjp hjq with h|h|h
      ·exact h
      ·exact(not p (fun h=>hjp h.symm) hpl.1 hpl.2 h).elim
      ·exact(not q (fun h=>hjq h.symm) hql.1 hql.2 h).elim
     rw[dQ]at hv1';simp only[hol,if_pos hro]at hv1 hv1';obtain⟨u,r1,k1⟩:=(kW hro).1 hv1;obtain⟨u',r2,k2⟩:=(kW hro).1 hv1';have e:=r1.det r2;subst e;unfold wpOpIn;rw[show ops.toArray[j]?=some o by simpa using hol];have hpτ:p∈τ:=(hτ p).2 ⟨hpl.1,by rw[getD_set_ne true hjp];exact hpl.2⟩;have hqτ:q∈τ:=(hτ q).2 ⟨hql.1,by rw[getD_set_ne true hjq];exact hql.2⟩;have hboth:vgo P ops o T h fun T' h'=>(∃W1,dQ P ops ob τ W1 T' h' K)∧∃W2,dQ P ops ob' τ' W2 T' h' K:=(kW hro).2 ⟨u,r1,⟨_,k1⟩,⟨_,k2⟩⟩;exact nW s (hd o (kq0 hol)) hboth fun T' h' a' w' hv'' s'=>by
      obtain⟨⟨W1,x1⟩,⟨W2,x2⟩⟩:=hv'';exact ih hsz' hτ hτ' hcl' hndτ hndτ' (by omega) (by omega) (xN hsub hp) (xN hsub' hp') hpτ hqτ x1 x2 s'
theorem St.drawn {T:Sl} {h:aB} {a:Act} {w:World} (s:St w0 μ0 h0 N df T h a w):St w0 μ0 h0 N df T h a { w with drawn:=w.drawn+1 }:=by
 obtain⟨μ,H,G,S,hN,hdf⟩:=s;exact⟨μ,H.drew,G.trans (Good.drew w μ h),S.good (Good.drew w μ h),hN,hdf⟩
theorem zV5 {r:Option Nat} {n id:Nat} {K:Sl→aB→Prop} {Q:Exit→Act→World→Prop} {σ:List Nat} (hm:P.follows .mixedOrders=true) (hok:xM P ops ob σ=true) (hdok:dOk N ops=true)
  (hK:∀T T' h,iA T T'→K T h→K T' h) (hk:∀T' h' a' w',K T' h'→St w0 μ0 h0 N df T' h' a' w'→Q .normal a' w') {T:Sl} {h:aB} {a:Act} {w:World} (s:St w0 μ0 h0 N df T h a w)
  (hv:dQ P ops ob σ [] T h K):(Code.region id ops.toArray true).wpIn (FW r) n P Q a w:=by
 simp only[xM,ks2,beq_iff_eq]at hok;obtain⟨⟨⟨⟨⟨⟨h1,h2⟩,h2'⟩,h3⟩,h4⟩,h5⟩,h6⟩:=hok;have hnd:=nodup_iff.1 h1;refine wpIn_region_any hm (xO (σ:=σ) hK hk (fun o ho=>vD hdok ho) h4 h5 _ (by simp) ?_ ?_ hnd (by simp[h2]) h6 hv s.drawn)
 ·intro i;constructor
  ·intro hi;have:i<ops.length:=by simpa using ku0.1 h3 i hi
   exact⟨this,by simp[kx7,this]⟩
  ·rintro⟨hi,_⟩;simpa using ku0.1 h2' i (kx6.2 hi)
 ·intro j k hj hl hb hkl;simp[kx7,hj]at hl
def zV6:List Nat→List Nat→Option (Nat×Nat)
 |x::r,y::r'=>if x=y then zV6 r r' else some (x,y)
 |_,_=>none
def xP (ops:List Oper) (σ:List Nat):Bool:=bO σ&&σ.length == ops.length&&(kt4 ops.length).all σ.contains&&σ.all (·<ops.length)
def zd9 (P:Program) (ops:List Oper) (ob:Nat→List Nat) (σ:List Nat) (ob':Nat→List Nat) (σ':List Nat):Bool:=match zV6 σ σ' with
 |some (p,q)=>p != q&&σ.contains p&&σ.contains q&&xP ops σ&&xP ops σ'&&vE ops&&sZ ops (Region.before ops.toArray).toList &&
   jS (pP P ops ob (Region.before ops.toArray).toList p q) σ&&jS (pP P ops ob' (Region.before ops.toArray).toList q p) σ' &&
   (kt4 ops.length).all fun j=>match ops[j]? with
    |some o=>j == p||j == q||ro o.op||((Region.before ops.toArray).toList.getD j 0).testBit p||((Region.before ops.toArray).toList.getD j 0).testBit q
    |none=>true
 |none=>false
theorem ze0 {σ:List Nat} (hb:xP ops σ=true) (i:Nat):i∈σ↔i<ops.length∧(Array.replicate ops.length false).getD i true=false:=by
 simp only[xP,ks2,beq_iff_eq]at hb;obtain⟨⟨⟨_,_⟩,h2⟩,h3⟩:=hb;constructor
 ·intro hi;have:i<ops.length:=by simpa using ku0.1 h3 i hi
  exact⟨this,by simp[kx7,this]⟩
 ·rintro⟨hi,_⟩;simpa using ku0.1 h2 i (kx6.2 hi)
theorem js5 {r:Option Nat} {n id:Nat} {K:Sl→aB→Prop} {Q:Exit→Act→World→Prop} {ob':Nat→List Nat} {σ σ':List Nat} (hm:P.follows .mixedOrders=true) (hok:zd9 P ops ob σ ob' σ'=true) (hdok:dOk N ops=true)
  (hK:∀T T' h,iA T T'→K T h→K T' h) (hk:∀T' h' a' w',K T' h'→St w0 μ0 h0 N df T' h' a' w'→Q .normal a' w') {T:Sl} {h:aB} {a:Act} {w:World} (s:St w0 μ0 h0 N df T h a w)
  (hv:dQ P ops ob σ [] T h K) (hv':dQ P ops ob' σ' [] T h K):(Code.region id ops.toArray true).wpIn (FW r) n P Q a w:=by
 unfold zd9 at hok;split at hok
 ·rename_i p q _;simp only[ks2,bne_iff_ne,ne_eq]at hok;obtain⟨⟨⟨⟨⟨⟨⟨⟨⟨h1,h2⟩,h3⟩,h4⟩,h5⟩,h6⟩,h7⟩,h8⟩,h9⟩,h10⟩:=hok;have b4:=h4;have b5:=h5;simp only[xP,ks2,beq_iff_eq]at b4 b5;refine wpIn_region_any hm (js4 (σ:=σ) (σ':=σ') (p:=p) (q:=q) h1 hK hk (fun o ho=>vD hdok ho) h6 h7 ?_ _ (by simp) ?_ ?_ ?_ (nodup_iff.1 b4.1.1.1) (nodup_iff.1 b5.1.1.1) (by simp[b4.1.1.2]) (by simp[b5.1.1.2]) h8 h9 (by simpa using h2) (by simpa using h3) hv hv' s.drawn)
  ·intro j o hj hjp hjq;have hlt:=(kp9.1 hj).1;have:=ku0.1 h10 j (kx6.2 hlt);rw[hj]at this;simp only[kx0,beq_iff_eq]at this;rcases this with(((h|h)|h)|h)|h
   ·exact absurd h hjp
   ·exact absurd h hjq
   ·exact .inl h
   ·exact .inr (.inl h)
   ·exact .inr (.inr h)
  ·intro i;rw[ze0 h4 i];simp
  ·intro i;rw[ze0 h5 i];simp
  ·intro j k hj hl hb hkl;simp[kx7,hj]at hl
 ·cases hok
end Go.Vt
