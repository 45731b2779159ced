import Derived.Test.YtdabfkmhkoppcaaGreatDoorVtD13
import Derived.Test.YtdabfkmhkoppcaaGreatDoorVtA1
import Derived.Test.YtdabfkmhkoppcaaGreatDoorVtX1
import Derived.Test.YtdabfkmhkoppcaaGreatDoorVtW1
set_option linter.all false
set_option maxHeartbeats 2000000
set_option maxRecDepth 100000
open Bool renaming and_eq_true→ks2,not_eq_true'→kF9
open Int renaming natCast_nonneg→kq2,toNat_natCast→kq4
open List renaming append_assoc→kr3,append_nil→ku3,cons_append→kr0,contains_eq_mem→kE3,drop_eq_getElem_cons→kG3,ext_getElem?→ky8,forall_mem_cons→kt7,getD_eq_getElem?_getD→ku6,getElem?_append_left→kr9,getElem?_append_right→kr5,getElem?_cons_succ→ks4,getElem?_cons_zero→kr6,getElem?_eq_getElem→kr1,getElem?_eq_none→kz0,getElem?_eq_some_iff→kp9,getElem?_map→ks1,getElem?_of_mem→kw9,getElem?_set_self→ky4,getElem?_set→ky5,length_append→kq3,length_cons→kr4,length_eq_zero_iff→ku2,length_map→kr8,length_nil→kr7,length_range→kB0,length_take→kt3,lookup→kt8,map_append→kF5,map_cons→kq1,map_nil→kq5,mem_append→kt5,mem_map→ky3,mem_of_getElem?→kq0,mem_singleton→kv0,nil_append→kr2,not_mem_nil→ku1,range→kt4,replicate→kw8,set_append_left→kI2,set_append_right→kx2,set_cons_zero→ku7,take_of_length_le→kq6
open Nat renaming add_sub_cancel_left→kv3,le_refl→ks0,reduceAdd→ks7,sub_self→kD4,zero_add→kt2,zero_le→kt1
open Option renaming getD_none→kF7,getD_some→kB5,map_eq_some_iff→kv7,map_none→kJ2,map_some→kt9
open Go.Proofs.Tryz renaming prog→kp8
open Go.Vt.aF renaming encs→ks8
open Go.Vt.aG renaming renLs→ks9
open Go.Vt renaming dL→J0,mkV→J1
open Nat renaming reduceBEq→J2,reduceEqDiff→J3,reduceLT→J4,reduceLeDiff→J5,reduceAdd→J6,reduceMul→J7,reduceSub→J8
namespace Go.Vt.Tryz
open Go.Proofs
def lt (n i:Nat):Option Nat:=if i<n then some i else none
mutual
theorem zX {m:Nat→Option Nat} {n:Nat} (hm:∀i,i<n→m i=some i):∀l:L,aG (lt n) l=some l→aG m l=some l
 |.d _,_=>rfl
 |.nils,_=>rfl
 |.own id _ _,h=>by
  simp only[aG,lt]at h ⊢;by_cases hi:id<n
  ·rw[hm id hi];rfl
  ·rw[if_neg hi]at h;cases h
 |.ptr id _,h=>by
  simp only[aG,lt]at h ⊢;by_cases hi:id<n
  ·rw[hm id hi];rfl
  ·rw[if_neg hi]at h;cases h
 |.ept id _ _ _,h=>by
  simp only[aG,lt]at h ⊢;by_cases hi:id<n
  ·rw[hm id hi];rfl
  ·rw[if_neg hi]at h;cases h
 |.ref _,_=>rfl
 |.fn f caps,h=>by
  simp only[aG]at h ⊢;cases e:ks9 (lt n) caps with
  |none=>rw[e]at h;cases h
  |some xs=>
   rw[e]at h;simp only[kt9,Option.some.injEq,L.fn.injEq,true_and]at h;rw[h]at e;rw[zY hm _ e];rfl
 |.nilf,_=>rfl
 |.any,_=>rfl
 |.bsl id _ _,h=>by
  simp only[aG,lt]at h ⊢;by_cases hi:id<n
  ·rw[hm id hi];rfl
  ·rw[if_neg hi]at h;cases h
 |.osl id _ _ _,h=>by
  simp only[aG,lt]at h ⊢;by_cases hi:id<n
  ·rw[hm id hi];rfl
  ·rw[if_neg hi]at h;cases h
 |.nili,_=>rfl
 |.fb f fst,h=>by
  simp only[aG]at h ⊢;cases e:ks9 (lt n) fst with
  |none=>rw[e]at h;cases h
  |some xs=>
   rw[e]at h;simp only[kt9,Option.some.injEq,L.fb.injEq,true_and]at h;rw[h]at e;rw[zY hm _ e];rfl
 termination_by l=>SizeOf.sizeOf l
theorem zY {m:Nat→Option Nat} {n:Nat} (hm:∀i,i<n→m i=some i):∀l:List L,ks9 (lt n) l=some l→ks9 m l=some l
 |[],_=>rfl
 |x::r,h=>by
  simp only[ks9]at h ⊢;cases e1:aG (lt n) x with
  |none=>rw[e1]at h;cases h
  |some y=>cases e2:ks9 (lt n) r with
   |none=>rw[e1,e2]at h;cases h
   |some ys=>
    rw[e1,e2]at h;simp only[Option.some.injEq,List.cons.injEq]at h;rw[h.1]at e1;rw[h.2]at e2;rw[zX hm _ e1,zY hm _ e2]
 termination_by l=>SizeOf.sizeOf l
end
theorem zZ {m:Nat→Option Nat} {n:Nat} (hm:∀i,i<n→m i=some i) {o:aI} (h:bD (lt n) o=some o):bD m o=some o:=by
 cases o with
 |bx ty cells=>
  simp only[bD]at h ⊢;cases e:ks9 (lt n) cells with
  |none=>rw[e]at h;cases h
  |some xs=>
   rw[e]at h;simp only[kt9,Option.some.injEq,aI.bx.injEq,true_and]at h;subst h;rw[zY hm _ e];rfl
 |ar=>rfl
 |dead=>rfl
def Clo (n:Nat) (h:aB):Prop:=∀o∈h,bD (lt n) o=some o
theorem sJ {n i:Nat} (h:i<n):lt n i=some i:=if_pos h
theorem Clo.mono {n m:Nat} {h:aB} (hc:Clo n h) (hnm:n≤m):Clo m h:=fun o ho=>zZ (fun _ hi=>sJ (by omega)) (hc o ho)
theorem Clo.app {n:Nat} {h t:aB} (a:Clo n h) (b:Clo n t):Clo n (h++t):=fun o ho=>(kt5.1 ho).elim (a o) (b o)
theorem zK7 {h:aB} {m:Nat→Option Nat}:∀(ids:List Nat) (xs:aB),xs.length=ids.length→(∀(k id:Nat),ids[k]?=some id→∃o o',h[id]?=some o∧bD m o=some o'∧xs[k]?=some o')→bA h m ids=some xs
 |[],xs,e,_=>by cases xs with|nil=>rfl|cons=>cases e
 |id::r,xs,e,hk=>by
  cases xs with
  |nil=>cases e
  |cons x xs=>
   obtain⟨o,o',h1,h2,h3⟩:=hk 0 id rfl;simp only[kr6,Option.some.injEq]at h3;subst h3;have:=zK7 (h:=h) (m:=m) r xs (by simpa using e) fun k i hi=>by
    obtain⟨p,p',a,b,c⟩:=hk (k+1) i (by simpa using hi);exact⟨p,p',a,b,by simpa using c⟩
   simp only[bA,h1,h2,this]
theorem zj3 {n i:Nat}:idx (kt4 n) i=lt n i:=by
 unfold lt;split
 ·rename_i h;exact wF rfl h
 ·rename_i h;cases e:idx (kt4 n) i with
  |none=>rfl
  |some k=>
   have:=kq0 (lL e);simp at this;omega
theorem zj4 {h:aB} (hc:Clo h.length h):bA h (idx (kt4 h.length)) (kt4 h.length)=some h:=by
 refine zK7 _ _ (by simp) fun k id hk=>?_;obtain⟨hlt,e⟩:=kp9.1 hk;simp only[kB0]at hlt;simp only[List.getElem_range]at e;subst e;have:h[k]?=some h[k]:=kr1 hlt;exact⟨_,_,this,zZ (fun i hi=>by rw[zj3,sJ hi]) (hc _ (List.getElem_mem hlt)),this⟩
theorem za0 {n k:Nat}:dN (kt4 n) n k=some k:=by
 unfold dN;by_cases h:k<n
 ·simp[h]
 ·simp[h];omega
mutual
theorem jc7 {n:Nat}:∀l:L,aG (dN (kt4 n) n) l=some l
 |.d _=>rfl
 |.nils=>rfl
 |.own ..=>by simp only[aG,za0];rfl
 |.ptr ..=>by simp only[aG,za0];rfl
 |.ept ..=>by simp only[aG,za0];rfl
 |.ref _=>rfl
 |.fn f caps=>by simp only[aG,za1 caps];rfl
 |.nilf=>rfl
 |.any=>rfl
 |.bsl ..=>by simp only[aG,za0];rfl
 |.osl ..=>by simp only[aG,za0];rfl
 |.nili=>rfl
 |.fb f fst=>by simp only[aG,za1 fst];rfl
theorem za1 {n:Nat}:∀l:List L,ks9 (dN (kt4 n) n) l=some l
 |[]=>rfl
 |x::r=>by simp only[ks9,jc7 x,za1 r]
end
theorem j54 {n:Nat} (o:aI):bD (dN (kt4 n) n) o=some o:=by
 cases o with
 |bx ty cells=>simp only[bD,za1];rfl
 |ar=>rfl
 |dead=>rfl
theorem zK8 {n:Nat}:∀h:aB,jN (dN (kt4 n) n) h=some h
 |[]=>rfl
 |o::r=>by simp only[jN,j54,zK8 r]
mutual
theorem zK9 {n:Nat}:∀v:V,hJ (dN (kt4 n) n) v=some v
 |.one l=>by simp only[hJ,jc7];rfl
 |.agg ls=>by simp only[hJ,za1];rfl
 |.tup vs=>by simp only[hJ,jc8 vs];rfl
theorem jc8 {n:Nat}:∀l:List V,hJ.renVs (dN (kt4 n) n) l=some l
 |[]=>rfl
 |x::r=>by simp only[hJ.renVs,zK9 x,jc8 r]
end
def clL (n:Nat) (l:L):Prop:=aG (lt n) l=some l
def clV (n:Nat):V→Prop
 |.one l=>clL n l
 |.agg ls=>∀l∈ls,clL n l
 |.tup _=>False
theorem jc9 {h:aB} {n:Nat} {l:L} (hl:clL n l):bT h (kt4 n) l=some l∧kU (kt4 n) l=[]:=by
 have hm:∀i,i<n→idx (kt4 n) i=some i:=fun i hi=>by rw[zj3,sJ hi]
 have hr:=zX hm l hl;cases l with
 |own id ver len=>
  unfold clL at hl;simp only[aG,lt]at hl;by_cases hi:id<n
  ·simp only[bT,kU,hm id hi,and_self]
  ·rw[if_neg hi]at hl;cases hl
 |_=>exact⟨hr,rfl⟩
theorem jd0 {h:aB} {n:Nat}:∀{ls:List L},(∀l∈ls,clL n l)→cW h (kt4 n) ls=some ls∧lK (kt4 n) ls=[]
 |[],_=>⟨rfl,rfl⟩
 |x::r,hl=>by
  obtain⟨a,b⟩:=jc9 (h:=h) (hl x (.head _));obtain⟨c,d⟩:=jd0 (h:=h) (ls:=r) fun l hm=>hl l (.tail _ hm);simp only[cW,lK,a,b,c,d,ku3,and_self]
theorem zj5 {h:aB} {n:Nat}:∀{vs:List V},(∀v∈vs,clV n v)→cE h (kt4 n) vs=some vs∧dM (kt4 n) vs=[]
 |[],_=>⟨rfl,rfl⟩
 |x::r,hl=>by
  obtain⟨c,d⟩:=zj5 (h:=h) (vs:=r) fun l hm=>hl l (.tail _ hm);have hx:=hl x (.head _);cases x with
  |one l=>
   obtain⟨a,b⟩:=jc9 (h:=h) (l:=l) hx;simp only[cE,dM,bP,mD,a,b,c,d,kt9,ku3,and_self]
  |agg ls=>
   obtain⟨a,b⟩:=jd0 (h:=h) (ls:=ls) hx;simp only[cE,dM,bP,mD,a,b,c,d,kt9,ku3,and_self]
  |tup vs=>exact hx.elim
theorem jd1:∀(h os:aB),h.length≤os.length→eV h (kt4 h.length) (os.take h.length)++os.drop h.length=os:=by
 intro h os hle;have:eV h (kt4 h.length) (os.take h.length)=os.take h.length:=by
  apply ky8;intro i;rw[zc8 (nodup_range _) (by simp;omega) (fun k id hk=>by have:=kq0 hk;simpa using this)];rw[zj3];unfold lt;by_cases hi:i<h.length
  ·simp[hi]
  ·simp[hi];omega
 rw[this,List.take_append_drop]
section
variable {P:Program} {h:aB} {K:Kn (V×aB)}
theorem qO {f:FuncId} {avs:List V} {H:aB} {Post:V→aB→Prop} (e:h=H) (hc:VC P f avs H Post) (hcl:Clo H.length H) (hv:∀v∈avs,clV H.length v)
  (hk:∀r h',Post r h'→H.length≤h'.length∧K.run (r,h')):@kE _ P f avs h K:=by
 subst e;obtain⟨a,b⟩:=zj5 (h:=h) hv;refine bJ (kt4 h.length) hc (nodup_range _) a (zj4 hcl) fun r hs' hp=>?_;obtain⟨hl,hkr⟩:=hk r hs' hp;refine⟨r,hs',?_,hkr⟩;unfold mE;rw[b];split
 ·rename_i hx;simp only[ks2,List.isEmpty_iff,List.range_eq_nil]at hx;obtain⟨⟨h0,_⟩,h1⟩:=hx;have:h=[]:=ku2.1 h0;rw[this,h1]
 ·simp only[zK9,zK8,eB];rw[kB0,jd1 _ _ hl]
end
theorem eE {n:Nat}:Clo n []↔True:=by simp[Clo]
theorem dS {n:Nat} {o:aI} {t:aB}:Clo n (o::t)↔bD (lt n) o=some o∧Clo n t:=by simp[Clo]
theorem zj6 {n:Nat}:∀{l:List L},ks9 (lt n) l=some l↔∀x∈l,clL n x
 |[]=>by simp[ks9]
 |x::r=>by
  rw[kt7,←zj6 (l:=r)];simp only[ks9,clL];constructor
  ·intro h;cases e1:aG (lt n) x with
   |none=>rw[e1]at h;cases h
   |some y=>cases e2:ks9 (lt n) r with
    |none=>rw[e1,e2]at h;cases h
    |some ys=>rw[e1,e2]at h;simpa using h
  ·rintro⟨e1,e2⟩;rw[e1,e2]
theorem eM {n:Nat} {ty:Option TypeId} {cells:List L}:bD (lt n) (.bx ty cells)=some (.bx ty cells)↔∀l∈cells,clL n l:=by
 rw[←zj6];simp only[bD];cases ks9 (lt n) cells<;>simp
theorem fP {n:Nat} {ty:Option TypeId} {fz:Bool} {sz v:Nat} {xs:List (List D)}:bD (lt n) (.ar ty fz sz v xs)=some (.ar ty fz sz v xs)↔True:=by simp[bD]
theorem fQ {n:Nat}:bD (lt n) .dead=some .dead↔True:=by simp[bD]
theorem fB {n:Nat} {x:D}:clL n (.d x)↔True:=by simp[clL,aG]
theorem fU {n:Nat}:clL n .nils↔True:=by simp[clL,aG]
theorem fV {n:Nat}:clL n .any↔True:=by simp[clL,aG]
theorem fW {n:Nat}:clL n .nilf↔True:=by simp[clL,aG]
theorem fX {n:Nat} {cs:List D}:clL n (.ref cs)↔True:=by simp[clL,aG]
theorem eA {n i k:Nat}:clL n (.ptr i k)↔i<n:=by simp only[clL,aG,lt];split<;>simp_all
theorem fY {n i k v:Nat}:clL n (.own i v k)↔i<n:=by simp only[clL,aG,lt];split<;>simp_all
theorem fZ {n i k v:Nat}:clL n (.bsl i v k)↔i<n:=by simp only[clL,aG,lt];split<;>simp_all
theorem eN {n f:Nat} {caps:List L}:clL n (.fn f caps)↔∀l∈caps,clL n l:=by
 rw[←zj6];simp only[clL,aG];cases ks9 (lt n) caps<;>simp
theorem gA {n:Nat} {l:L}:clV n (.one l)↔clL n l:=Iff.rfl
theorem gB {n:Nat} {ls:List L}:clV n (.agg ls)↔∀l∈ls,clL n l:=Iff.rfl
def st (H:aB) (ov:Nat→Option aI):aB:=H.mapIdx fun i o=>(ov i).getD o
theorem jI (H:aB) (ov:Nat→Option aI) (i:Nat):(st H ov)[i]?=(H[i]?).map fun o=>(ov i).getD o:=by simp[st]
theorem cD (H:aB) (ov:Nat→Option aI):(st H ov).length=H.length:=by simp[st]
theorem zL0 {H t:aB} {ov:Nat→Option aI} (h:∀i o,ov i=some o→i<H.length):st (H++t) ov=st H ov++t:=by
 apply ky8;intro i;rw[jI];by_cases hi:i<H.length
 ·rw[kr9 hi,kr9 (by rw[cD];exact hi),jI]
 ·rw[kr5 (by omega),kr5 (by rw[cD];omega),cD];have:ov i=none:=by cases e:ov i with|none=>rfl|some o=>exact absurd (h i o e) hi
  rw[this];simp
theorem jd2 {H:aB} {ov:Nat→Option aI} {a:Nat} {o:aI} (h:ov a=none):(st H ov).set a o=st (H.set a o) ov:=by
 apply ky8;intro i;rw[jI,ky5,ky5,cD,jI];by_cases e:a=i
 ·subst e;simp only[if_true];split
  ·rw[h];rfl
  ·rfl
 ·rw[if_neg e,if_neg e]
theorem zL1 {H:aB} {ov ov':Nat→Option aI} {a:Nat} {o:aI} (h:ov' a=some o) (hx:∀i,i≠a→ov' i=ov i):(st H ov).set a o=st H ov':=by
 apply ky8;intro i;rw[jI,ky5,cD,jI];by_cases e:a=i
 ·subst e;simp only[if_true];split
  ·rename_i hl;rw[kr1 hl,h];rfl
  ·rename_i hl;rw[kz0 (by omega)];rfl
 ·rw[if_neg e,hx i (Ne.symm e)]
theorem wg0 {n:Nat} {G t:aB} (h:G.length=n):(G++t)[n]?=t[0]?:=by rw[kr5 (by omega),h,kD4]
theorem wgk {n k:Nat} {G t:aB} (h:G.length=n):(G++t)[n+k]?=t[k]?:=by rw[kr5 (by omega),h,kv3]
theorem wgl {n i:Nat} {G t:aB} (h:G.length=n) (hi:i<n):(G++t)[i]?=G[i]?:=by rw[kr9 (by omega)]
theorem ws0 {n:Nat} {G t:aB} {o:aI} (h:G.length=n):(G++t).set n o=G++t.set 0 o:=by rw[kx2 _ _ (by omega),h,kD4]
theorem wsk {n k:Nat} {G t:aB} {o:aI} (h:G.length=n):(G++t).set (n+k) o=G++t.set k o:=by rw[kx2 _ _ (by omega),h,kv3]
theorem wsl {n i:Nat} {G t:aB} {o:aI} (h:G.length=n) (hi:i<n):(G++t).set i o=G.set i o++t:=by rw[kI2 _ _ (by omega)]
theorem bY {n:Nat} {G t:aB} (h:G.length=n):(G++t).length=n+t.length:=by rw[kq3,h]
def wid (n:Nat) (js:List Nat):List Nat:=kt4 n++js.map (n+·)
def wr (n:Nat) (js:List Nat) (i:Nat):Option Nat:=if i<n then some i else (idx js (i-n)).map (n+·)
theorem za2:∀(a b:List Nat) (i:Nat),idx (a++b) i=match idx a i with|some k=>some k|none=>(idx b i).map (a.length+·)
 |[],b,i=>by
  simp only[kr2,idx,kr7];cases idx b i with
  |none=>rfl
  |some k=>simp
 |x::a,b,i=>by
  simp only[kr0,idx,za2 a b i];split
  ·rfl
  ·cases idx a i with
   |some k=>rfl
   |none=>cases idx b i with
    |none=>rfl
    |some k=>simp only[kt9,kJ2,kr4];congr 1;omega
theorem jd3 (n:Nat):∀(js:List Nat) (i:Nat),n≤i→idx (js.map (n+·)) i=idx js (i-n)
 |[],_,_=>rfl
 |j::r,i,h=>by
  simp only[kq1,idx,jd3 n r i h];by_cases e:n+j=i
  ·rw[if_pos e,if_pos (by omega)]
  ·rw[if_neg e,if_neg (by omega)]
theorem pC (n:Nat) (js:List Nat):idx (wid n js)=wr n js:=by
 funext i;unfold wid wr;rw[za2,zj3];unfold lt;by_cases h:i<n
 ·rw[if_pos h,if_pos h]
 ·rw[if_neg h,if_neg h,jd3 n js i (by omega),kB0]
theorem gP {n i:Nat} {js:List Nat} (h:i<n):wr n js i=some i:=if_pos h
theorem jd4 {n:Nat} {js:List Nat}:wr n js n=(idx js 0).map (n+·):=by unfold wr;rw[if_neg (by omega),kD4]
theorem fD {n k:Nat} {js:List Nat}:wr n js (n+k)=(idx js k).map (n+·):=by unfold wr;rw[if_neg (by omega),kv3]
theorem zL2:∀(a b:List Nat),(∀x∈a,x∉b)→bO a=true→bO b=true→bO (a++b)=true
 |[],_,_,_,h=>h
 |x::a,b,hd,h1,h2=>by
  simp only[bO,ks2,kF9,kr0]at h1 ⊢;refine⟨?_,zL2 a b (fun y hy=>hd y (.tail _ hy)) h1.2 h2⟩;rw[kE3]at h1 ⊢;simp only[decide_eq_false_iff_not,kt5,not_or]at h1 ⊢;exact⟨h1.1,hd x (.head _)⟩
theorem zL3 (n:Nat):∀js:List Nat,bO js=true→bO (js.map (n+·))=true
 |[],_=>rfl
 |j::r,h=>by
  simp only[bO,ks2,kF9,kq1]at h ⊢;refine⟨?_,zL3 n r h.2⟩;rw[kE3]at h ⊢;simp only[decide_eq_false_iff_not,ky3,not_exists,not_and]at h ⊢;intro x hx e;have:x=j:=by omega
  exact h.1 (this▸hx)
theorem gQ {n:Nat} {js:List Nat} (h:bO js=true):bO (wid n js)=true:=
 zL2 _ _ (fun x hx hm=>by
  simp only[List.mem_range,ky3]at hx hm;obtain⟨j,_,e⟩:=hm;omega) (nodup_range n) (zL3 n js h)
theorem jV {n:Nat} {js:List Nat}:(wid n js).take n=kt4 n:=by unfold wid;rw[List.take_append_of_le_length (by simp),kq6 (by simp)]
theorem j55 {n:Nat} {G G1 t t1:aB} {js:List Nat} (hG:G.length=n) (h1:G1.length=n) (hg:∀(i:Nat) (o:aI),G[i]?=some o→∃o':aI,bD (wr n js) o=some o'∧G1[i]?=some o') (ht:bA t (wr n js) js=some t1) :
  bA (G++t) (idx (wid n js)) (wid n js)=some (G1++t1):=by
 obtain⟨e1,e2⟩:=pL ht;rw[pC];refine zK7 _ _ (by simp[wid,h1,e1]) fun k id hk=>?_;unfold wid at hk;by_cases hkn:k<n
 ·rw[kr9 (by simpa using hkn)]at hk;simp only[List.getElem?_range,hkn]at hk;cases hk;have hx:G[k]?=some G[k]:=kr1 (by omega);obtain⟨o',a,b⟩:=hg k _ hx;exact⟨_,o',by rw[wgl hG hkn];exact hx,a,by rw[wgl h1 hkn];exact b⟩
 ·rw[kr5 (by simp;omega),kB0,ks1]at hk;obtain⟨j,hj,rfl⟩:=kv7.1 hk;obtain⟨o,o',a,b,c⟩:=e2 _ _ hj;refine⟨o,o',by rw[wgk hG];exact a,b,?_⟩;rw[kr5 (by omega),h1];exact c
def cn (c:Nat) (fr:List Int) (nx:Int) (bd:L) (ms:List Nat) (A N:List Int):Nat→Option aI:=fun i=>
 if i=c then some (.box [.d (.sl (nums fr)),.d (.int .i64 nx),bd])else
 match idx ms i with
 |some k=>some (.box [.d (.int .i64 (A.getD k 0)),.d (.int .i64 (N.getD k 0))])
 |none=>none
theorem wM {c:Nat} {fr:List Int} {nx:Int} {bd:L} {ms:List Nat} {A N:List Int}:cn c fr nx bd ms A N c=some (.box [.d (.sl (nums fr)),.d (.int .i64 nx),bd]):=if_pos rfl
theorem wN {c:Nat} {fr:List Int} {nx:Int} {bd:L} {ms:List Nat} {A N:List Int} {i k:Nat} (hc:i≠c) (hk:idx ms i=some k) :
  cn c fr nx bd ms A N i=some (.box [.d (.int .i64 (A.getD k 0)),.d (.int .i64 (N.getD k 0))]):=by unfold cn;rw[if_neg hc,hk]
theorem wO {c:Nat} {fr:List Int} {nx:Int} {bd:L} {ms:List Nat} {A N:List Int} {i:Nat} (hc:i≠c) (hk:i∉ms):cn c fr nx bd ms A N i=none:=by
 unfold cn;rw[if_neg hc];cases e:idx ms i with
 |none=>rfl
 |some k=>exact absurd (kq0 (lL e)) hk
theorem zL4 {c n:Nat} {fr:List Int} {nx:Int} {bd:L} {ms:List Nat} {A N:List Int} (hc:c<n) (hm:∀m∈ms,m<n) (i:Nat) (o:aI) (h:cn c fr nx bd ms A N i=some o):i<n:=by
 by_cases e:i=c
 ·omega
 ·by_cases hi:i∈ms
  ·exact hm i hi
  ·rw[wO e hi]at h;cases h
def bdL (b:Option Nat) (a k:Nat):L:=match b with|none=>.nils|some _=>.bsl a 0 k
def arO (b:Option Nat) (ms:List Nat):aI:=match b with|none=>.dead|some r=>.box (ms.map (fun m=>.ptr m 0)++kw8 r .any)
def mvs (b:Option Nat) (c len:Nat):List (Nat×Nat×Nat):=match b with|none=>[(len,0,0)]|some _=>[(c,2,0)]
theorem jd5 {h:aB} {b:Option Nat} {ms:List Nat} {a c k:Nat} {x y:L} (ha:h[a]?=some (arO b ms)) (hc:h[c]?=some (.box [x,y,bdL b a k])) (hac:a≠c) :
  eP h (mvs b c h.length)=some ((h.set a .dead).set c (.box [x,y,bdL b h.length k])++[arO b ms]):=by
 cases b with
 |none=>
  simp only[mvs,eP,sS,kz0 (ks0 _),arO,bdL]at *;have e1:h.set a .dead=h:=by
   apply ky8;intro i;rw[ky5];split
   ·rename_i e;subst e;rw[ha,if_pos (kp9.1 ha).1]
   ·rfl
  have e2:h.set c (.box [x,y,.nils])=h:=by
   apply ky8;intro i;rw[ky5];split
   ·rename_i e;subst e;rw[hc,if_pos (kp9.1 hc).1]
   ·rfl
  rw[e1,e2]
 |some r=>
  have hcl:=(kp9.1 hc).1;simp only[mvs,eP,sS,hc,bdL,ks4,kr6,ha,arO,ne_eq,hac,not_false_eq_true,if_true,List.set_cons_succ,ku7]
  congr 1
  rw[kI2 _ _ (by simpa using hcl)]
structure Rg (H:aB) (c a:Nat) (ms:List Nat) (b:Option Nat) (A N:List Int):Prop where
 cl:Clo H.length H
 c_:c<H.length
 ms_:∀m∈ms,m<H.length
 nd:bO ms=true
 cm:c∉ms
 ha:H[a]?=some (arO b ms)
 ac:a≠c
 am:a∉ms
 b_:b=none→ms=[]
 lA:A.length=ms.length
 lN:N.length=ms.length
theorem Rg.a_ {H:aB} {c a:Nat} {ms:List Nat} {b:Option Nat} {A N:List Int} (h:Rg H c a ms b A N):a<H.length:=(kp9.1 h.ha).1
theorem Rg.out {H t:aB} {c a:Nat} {ms:List Nat} {b:Option Nat} {A N:List Int} (h:Rg H c a ms b A N) {fr:List Int} {nx:Int} {bd:L} {A' N':List Int}:st (H++t) (cn c fr nx bd ms A' N')=st H (cn c fr nx bd ms A' N')++t:=
 zL0 (zL4 h.c_ h.ms_)
theorem Rg.app {H t:aB} {c a:Nat} {ms:List Nat} {b:Option Nat} {A N:List Int} (h:Rg H c a ms b A N) (ht:Clo (H.length+t.length) t):Rg (H++t) c a ms b A N where
 cl:=by rw[kq3];exact(h.cl.mono (by omega)).app ht
 c_:=by have:=h.c_;simp;omega
 ms_ m hm:=by have:=h.ms_ m hm;simp;omega
 nd:=h.nd
 cm:=h.cm
 ha:=by rw[kr9 h.a_];exact h.ha
 ac:=h.ac
 am:=h.am
 b_:=h.b_
 lA:=h.lA
 lN:=h.lN
theorem Rg.withN {H:aB} {c a:Nat} {ms:List Nat} {b:Option Nat} {A N N':List Int} (h:Rg H c a ms b A N) (e:N'.length=N.length):Rg H c a ms b A N':={ h with lN:=e.trans h.lN }
theorem sK {H:aB} {n c a:Nat} {ms:List Nat} {b:Option Nat} {A N fr:List Int} {nx:Int} {k:Nat} (hc:Clo n H) (ha:a<n):Clo n (st H (cn c fr nx (bdL b a k) ms A N)):=by
 intro o ho;obtain⟨i,hi⟩:=kw9 ho;rw[jI]at hi;obtain⟨o1,h1,h2⟩:=kv7.1 hi;have hm1:=kq0 h1;by_cases e:i=c
 ·subst e;rw[wM]at h2;simp only[kB5]at h2;subst h2;cases b with
  |none=>rfl
  |some r=>simp only[bD,ks9,aG,bdL,sJ ha];rfl
 ·cases e1:idx ms i with
  |none=>
   have:cn c fr nx (bdL b a k) ms A N i=none:=by unfold cn;rw[if_neg e,e1]
   rw[this]at h2;simp only[kF7]at h2;subst h2;exact hc _ hm1
  |some j=>
   rw[wN e e1]at h2;simp only[kB5]at h2;subst h2;rfl
theorem gR {H t t1:aB} {n c:Nat} {js ms:List Nat} {A N fr:List Int} {nx:Int} {bd bd':L} (hn:H.length=n) (hc:Clo n H) (hbd:aG (wr n js) bd=some bd') (ht:bA t (wr n js) js=some t1) :
  bA (st H (cn c fr nx bd ms A N)++t) (idx (wid n js)) (wid n js)=some (st H (cn c fr nx bd' ms A N)++t1):=by
 refine j55 ((cD _ _).trans hn) ((cD _ _).trans hn) (fun i o hi=>?_) ht;rw[jI]at hi ⊢;obtain⟨o1,h1,h2⟩:=kv7.1 hi;rw[h1];by_cases e:i=c
 ·subst e;rw[wM]at h2 ⊢;simp only[kB5]at h2;subst h2;exact⟨.box [.d (.sl (nums fr)),.d (.int .i64 nx),bd'],by simp only[bD,ks9,aG,hbd];rfl,rfl⟩
 ·cases e1:idx ms i with
  |none=>
   have q:∀bd,cn c fr nx bd ms A N i=none:=fun bd=>by unfold cn;rw[if_neg e,e1]
   rw[q]at h2 ⊢;simp only[kF7]at h2;subst h2;exact⟨_,zZ (fun j hj=>gP hj) (hc _ (kq0 h1)),rfl⟩
  |some j=>
   rw[wN e e1]at h2 ⊢;simp only[kB5]at h2;subst h2;exact⟨_,rfl,rfl⟩
theorem j56 {n:Nat} {h:aB} {r:V} (hc:Clo h.length h) (hn:n≤h.length) (hr:clV h.length r):fin n (kt4 h.length) h r=some (r,h):=by
 unfold fin;rw[if_pos ⟨nodup_range _,by rw[List.take_range,Nat.min_eq_left hn]⟩,zj4 hc];have:cF h (kt4 h.length) r=some r:=by
  have hv:=(zj5 (h:=h) (n:=h.length) (vs:=[r]) (by simpa using hr)).1;cases r with
  |tup vs=>exact hr.elim
  |one l=>simp only[cE]at hv;simp only[cF];revert hv;cases bP h (kt4 h.length) (.one l)with|none=>simp|some x=>simp
  |agg l=>simp only[cE]at hv;simp only[cF];revert hv;cases bP h (kt4 h.length) (.agg l)with|none=>simp|some x=>simp
 rw[this]
theorem pD {H t t1:aB} {n c:Nat} {js ms:List Nat} {A N fr:List Int} {nx:Int} {bd bd':L} {r r':V} (hn:H.length=n) (hc:Clo n H) (hj:bO js=true) (hbd:aG (wr n js) bd=some bd') (ht:bA t (wr n js) js=some t1)
  (hr:cF (st H (cn c fr nx bd ms A N)++t) (wid n js) r=some r'):fin n (wid n js) (st H (cn c fr nx bd ms A N)++t) r=some (r',st H (cn c fr nx bd' ms A N)++t1):=by
 unfold fin;rw[if_pos ⟨gQ hj,jV⟩,gR hn hc hbd ht,hr]
section
variable {H:aB} {c a:Nat} {ms:List Nat} {b:Option Nat} {A N0:List Int}
theorem Rg.gc (hR:Rg H c a ms b A N0) (fr:List Int) (nx:Int) (bd:L) (N:List Int) (t:aB):(st H (cn c fr nx bd ms A N)++t)[c]?=some (.box [.d (.sl (nums fr)),.d (.int .i64 nx),bd]):=by
 rw[wgl (cD _ _) hR.c_,jI,kr1 hR.c_,wM];rfl
theorem Rg.sc (hR:Rg H c a ms b A N0) (fr fr':List Int) (nx nx':Int) (bd bd':L) (N:List Int) (t:aB):(st H (cn c fr nx bd ms A N)++t).set c (.box [.d (.sl (nums fr')),.d (.int .i64 nx'),bd'])=st H (cn c fr' nx' bd' ms A N)++t:=by
 rw[wsl (cD _ _) hR.c_]
 congr 1
 refine zL1 wM fun i hi=>?_;unfold cn;rw[if_neg hi,if_neg hi]
theorem Rg.at_ (hR:Rg H c a ms b A N0) {i m:Nat} (hm:ms[i]?=some m):m≠c∧idx ms m=some i∧m<H.length:=
 ⟨fun e=>hR.cm (e▸kq0 hm),zc6 hR.nd hm,hR.ms_ m (kq0 hm)⟩
theorem Rg.gm (hR:Rg H c a ms b A N0) {i m:Nat} (hm:ms[i]?=some m) (fr:List Int) (nx:Int) (bd:L) (N:List Int) (t:aB):(st H (cn c fr nx bd ms A N)++t)[m]?=some (.box [.d (.int .i64 (A.getD i 0)),.d (.int .i64 (N.getD i 0))]):=by
 obtain⟨h1,h2,h3⟩:=hR.at_ hm;rw[wgl (cD _ _) h3,jI,kr1 h3,wN h1 h2];rfl
theorem Rg.sm (hR:Rg H c a ms b A N0) {i m:Nat} (hm:ms[i]?=some m) (fr:List Int) (nx:Int) (bd:L) {N:List Int} (hN:N.length=ms.length) (x:Int) (t:aB) :
  (st H (cn c fr nx bd ms A N)++t).set m (.box [.d (.int .i64 (A.getD i 0)),.d (.int .i64 x)])=st H (cn c fr nx bd ms A (N.set i x))++t:=by
 obtain⟨h1,h2,h3⟩:=hR.at_ hm;have hi:=(kp9.1 hm).1;rw[wsl (cD _ _) h3]
 congr 1
 refine zL1 ?_ fun j hj=>?_
 ·rw[wN h1 h2];simp[ku6,ky4 (show i<N.length by omega)]
 ·unfold cn;by_cases e:j=c
  ·rw[if_pos e,if_pos e]
  ·rw[if_neg e,if_neg e];cases e1:idx ms j with
   |none=>rfl
   |some k=>
    have:k≠i:=fun e2=>hj (Option.some.inj ((lL e1).symm.trans (e2▸hm)));simp[ku6,List.getElem?_set_ne (Ne.symm this)]
theorem Rg.ga (hR:Rg H c a ms b A N0) (fr:List Int) (nx:Int) (bd:L) (N:List Int) (t:aB):(st H (cn c fr nx bd ms A N)++t)[a]?=some (arO b ms):=by
 rw[wgl (cD _ _) hR.a_,jI,hR.ha,wO hR.ac hR.am];rfl
end
theorem qP {n a k:Nat} {js:List Nat} {b:Option Nat} (h:a<n):aG (wr n js) (bdL b a k)=some (bdL b a k):=by
 cases b with
 |none=>rfl
 |some r=>simp only[bdL,aG,gP h];rfl
theorem zj7 {n k:Nat} {js:List Nat} (h:js.take k=kt4 k):(wid n js).take (n+k)=kt4 (n+k):=by
 unfold wid;rw[List.range_add,List.take_append,kB0,kq6 (by simp),kv3,←List.map_take,h]
theorem wP {h:aB} {n i k:Nat} {js:List Nat} (hi:i<n):cF h (wid n js) (.one (.ptr i k))=some (.one (.ptr i k)):=by
 simp only[cF,bP,bT,aG,pC,gP hi,kt9]
theorem kN {h:aB} {n k:Nat} {js:List Nat}:cF h (wid n js) (.one (.ptr n k))=(idx js 0).map fun j=>.one (.ptr (n+j) k):=by
 simp only[cF,bP,bT,aG,pC,jd4];cases idx js 0<;>rfl
theorem cP {h:aB} {n i k:Nat} {js:List Nat}:cF h (wid n js) (.one (.ptr (n+i) k))=(idx js i).map fun j=>.one (.ptr (n+j) k):=by
 simp only[cF,bP,bT,aG,pC,fD];cases idx js i<;>rfl
theorem jd6 {H t:aB} {c a q k:Nat} {ms:List Nat} {b:Option Nat} {A N0 N fr:List Int} {nx:Int} (hR:Rg H c a ms b A N0) (hq:H.length=q) (ht:Clo (q+t.length) t):Clo (q+t.length) (st H (cn c fr nx (bdL b a k) ms A N)++t):=
 (sK (hR.cl.mono (by omega)) (by have:=hR.a_;omega)).app ht
theorem jd7 {P:Program} {K:Kn (V×aB)} {f:FuncId} {avs:List V} {R:V} {H t:aB} {c a q k:Nat} {ms:List Nat} {b:Option Nat} {A N0 N N' fr:List Int} {nx nx':Int} (hR:Rg H c a ms b A N0) (hq:H.length=q) (ht:Clo (q+t.length) t) (hv:∀v∈avs,clV (q+t.length) v)
  (hc:VC P f avs (st (H++t) (cn c fr nx (bdL b a k) ms A N)) fun r h'=>r=R∧h'=st (H++t) (cn c fr nx' (bdL b a k) ms A N')) (hk:K.run (R,st H (cn c fr nx' (bdL b a k) ms A N')++t)) :
  @kE _ P f avs (st H (cn c fr nx (bdL b a k) ms A N)++t) K:=by
 have hlen:∀N nx,(st (H++t) (cn c fr nx (bdL b a k) ms A N)).length=q+t.length:=fun N nx=>by rw[cD,kq3,hq]
 refine qO hR.out.symm hc ?_ ?_ ?_
 ·rw[hlen,hR.out];exact jd6 hR hq ht
 ·rw[hlen];exact hv
 ·rintro _ _ ⟨rfl,rfl⟩;refine⟨by rw[hlen,hlen];exact ks0 _,?_⟩;rw[hR.out];exact hk
theorem zL5 {h:aB} {n i j v len:Nat} {js:List Nat} (hj:idx js i=some j):cF h (wid n js) (.one (.own (n+i) v len))=some (.one (.own (n+j) v len)):=by
 simp only[cF,bP,bT,pC,fD,hj,kt9]
theorem j57 {h:aB} {n i v len:Nat} {js:List Nat} {ty:Option TypeId} {fz:Bool} {sz:Nat} {xs:List (List D)} (hj:idx js i=none) (hh:h[n+i]?=some (.ar ty fz sz v xs)):bT h (wid n js) (.own (n+i) v len)=some (.d (.sl (xs.take len))):=by
 simp only[bT,pC,fD,hj,kJ2,hh,if_true]
open Go.Proofs Go.Vt.Al
theorem zj8 {b:Option Nat} {a k n:Nat} (ha:a<n):clL n (bdL b a k):=by
 cases b with
 |none=>rfl
 |some r=>simp only[clL,bdL,aG,sJ ha];rfl
theorem j58 {h:aB} (hc:Clo h.length h) {b:Option Nat} {a k:Nat} (ha:a<h.length):VC kp8 287 [.one (bdL b a k)] h fun r h'=>r = .one (.fn 307 [.ptr h.length 0])∧h'=h++[.box [bdL b a k]]:=by
 have hl:clL h.length (bdL b a k):=zj8 ha;have hc2:Clo (h++[aI.box [bdL b a k]]).length (h++[aI.box [bdL b a k]]):=by
  rw[kq3];refine(hc.mono (Nat.le_add_right _ _)).app fun o ho=>?_;simp only[kv0]at ho;subst ho;have h1:clL (h.length+1) (bdL b a k):=zj8 (by omega);unfold clL at h1;simp only[bD,ks9,kr4,kr7,kt2,h1];rfl
 refine aU mixed jR7 (by simp) ?_;show vwp kp8 h.length zE7 _ [(0,.one (bdL b a k))] h;conv in zE7=>cbv
 rw[aO];have hk:jR (V.one (bdL b a k))=true:=by cases b<;>rfl
 simp -implicitDefEqProofs only[oS.d,J0,J1,J2,J3,J4,J5,J6,J7,J8,↓reduceIte,reduceCtorEq,hk];refine aH (kt4 (h++[aI.box [bdL b a k]]).length) rfl (j56 hc2 (by simp) ?_) ⟨rfl,rfl⟩;simp[clV,clL,aG,ks9,lt,dA]
theorem jd8 {ms:List Nat} {i m r:Nat} (h:ms[i]?=some m):(ms.map (fun m=>L.ptr m 0)++kw8 r L.any)[i]?=some (.ptr m 0):=by
 rw[kr9 (by have:=(kp9.1 h).1;simpa using this),ks1,h];rfl
theorem jd9 {α:Type} {l:List α} {i:Nat} {x:α} (h:l[i]?=some x):l.drop i=x::l.drop (i+1):=by
 obtain⟨hl,e⟩:=kp9.1 h;rw[kG3 hl,e]
theorem j59 {Y:kX} {b:Option Nat} {a:Nat} {ms:List Nat} (hbig:ms.length<1000000000) {h:aB} {id:Nat} (hid:h[id]?=some (.box [bdL b a ms.length])) (haid:h[a]?=some (arO b ms)) (hb:b=none→ms=[])
  (hc:Clo h.length h) {K:VX→Sl→aB→Prop} {T0:Sl} (Pass:Nat→Prop)
  (hround:∀i m,ms[i]?=some m→(∀j,i<j→j<ms.length→Pass j)→∀K':Option VX→aB→Prop,(∀r,Pass i→K' none (h++r))→(∀h',K .ret T0 h'→K' (some .ret) h')→Y [.one (.d (.int .i64 i)),.one (.ptr m 0)] h K')
  (hend:(∀j,j<ms.length→Pass j)→K .normal T0 h) :
  dY kp8 h.length Y zF0 (xU K T0) [(0,.one .any),(1,.one (.ptr id 0))] [0] h none:=by
 have hh:=zj4 hc;have hn:id<h.length:=(kp9.1 hid).1;conv in zF0=>cbv
 rw[kK,mL];refine lB rfl (r:=.one (bdL b a ms.length)) (h':=h) (by cases b<;>simp[vop,nK,opd,cN,hid,mkV,kt8,bdL]) ?_;refine lB rfl (r:=.one (.d (.int .i64 ms.length))) (h':=h) (by
  cases b with
  |none=>have:=hb rfl;subst this;simp[vop,nK,opd,iO,kt8,bI,bdL]
  |some r=>simp only[arO]at haid;simp[vop,nK,opd,iO,haid,kt8,bI,bdL]) ?_
 refine lB rfl (r:=.one (.d (.int .i64 ((ms.length:Int)-1)))) (h':=h) (rZ (a:=ms.length) (b:=1) rfl rfl ?_) ?_
 ·simp only[gZ,gV,gU];rw[rX (by omega) (by omega)];simp
 refine lB rfl (r:=.one (.d (.int .i64 ((ms.length:Int)-1)))) (h':=h) rfl ?_;rw[lC,fI,wH,zF9];refine⟨fun m T ys h1 pd=>m≤ms.length∧T=[(0,.one .any),(1,.one (.ptr id 0)),(3,.one (.d (.int .i64 ((m:Int)-1))))]∧(∃b,Yd b ys)∧h1=h∧pd=none∧∀j,m≤j→j<ms.length→Pass j,⟨ms.length,_,h,?_,ks0 _,rfl,⟨0,.base⟩,rfl,rfl,fun j h1 h2=>absurd h2 (by omega)⟩,?_⟩
 ·refine gJ (kt4 h.length) h (ko1 _) (nodup_range _) (by rw[kq6 (by simp)]) hh ⟨⟨_,ko0 _,rfl⟩,⟨_,ko0 _,?_⟩,⟨_,ko0 _,rfl⟩,trivial⟩;simp[cF,bP,bT,aG,wF rfl hn]
 ·rintro m T ys h1 pd ⟨hm,rfl,⟨b1,hys⟩,rfl,rfl,hp⟩;rw[kK,kK,mL];refine gK hys (rW hys (by decide) (by decide)) (by decide) (by decide) (r:=.one (.d (.int .i64 ((m:Int)-1)))) (h':=h1) rfl fun ys hys=>?_;refine gK hys rfl (by decide) (by decide) (r:=.one (.d (.bool (decide (0≤(m:Int)-1))))) (h':=h1) (rZ (a:=(m:Int)-1) (b:=0) rfl rfl rfl) fun ys hys=>?_;rw[lC,fI,rY];refine⟨fun e=>?_,fun e=>?_⟩
  ·rw[wG,fI,kK,wH,kK,mL];have e:0≤(m:Int)-1:=of_decide_eq_true e;obtain⟨i,rfl⟩:∃i,m=i+1:=⟨m-1,by omega⟩;have hi:i<ms.length:=by omega
   have hx:ms[i]?=some ms[i]:=kr1 hi;have hcast:((i+1:Nat):Int)-1=i:=by omega
   rw[hcast]at *;generalize ms[i]=x at hx;obtain⟨r,rfl⟩:∃r,b=some r:=by
    cases b with
    |none=>have:=hb rfl;subst this;cases hx
    |some r=>exact⟨r,rfl⟩
   simp only[bdL,arO]at hid haid;have hg:=jd9 (jd8 (r:=r) hx);have hil:(i:Int)<(ms.length:Int):=by omega
   refine z59 hys fun ys hys=>?_;refine gK hys (rW hys (by decide) (by decide)) (by decide) (by decide) (r:=.one (.d (.int .i64 i))) (h':=h1) rfl fun ys hys=>?_;refine gK hys rfl (by decide) (by decide) (r:=.one (.bsl a 0 ms.length)) (h':=h1) (by simp[vop,nK,opd,cN,hid,mkV,kt8,bI]) fun ys hys=>?_;refine gK hys (rW hys (by decide) (by decide)) (by decide) (by decide) (r:=.one (.d (.int .i64 i))) (h':=h1) rfl fun ys hys=>?_;refine gK hys rfl (by decide) (by decide) (r:=.one (.ptr a i)) (h':=h1) (by simp[vop,nK,opd,kR,haid,kt8,bI,hi]) fun ys hys=>?_;refine gK hys rfl (by decide) (by decide) (r:=.one (.ptr x 0)) (h':=h1) (by simp[vop,z07,opd,cN,mkV,kt8,bI,haid,hg]) fun ys hys=>?_;refine z60 hys (by decide) (by decide) (vs:=[.one (.d (.int .i64 i)),.one (.ptr x 0)]) rfl (fun ys hys=>hround i x hx (fun j h1 h2=>hp j (by omega) h2) _ (fun r hpi=>?_) (fun h' hK=>?_))
   ·refine gK hys rfl (by decide) (by decide) (r:=.one (.d (.bool false))) (h':=h1++r) rfl fun ys hys=>?_;rw[lC,fI,rY];refine⟨fun e=>(by cases e),fun _=>?_⟩;rw[wG,xS,fI,mL];refine gK hys (rW hys (by decide) (by decide)) (by decide) (by decide) (r:=.one (.d (.int .i64 i))) (h':=h1++r) rfl fun ys hys=>?_;refine gK hys rfl (by decide) (by decide) (r:=.one (.d (.int .i64 ((i:Int)-1)))) (h':=h1++r) (rZ (a:=i) (b:=1) rfl rfl ?_) (fun ys hys=>?_)
    ·simp only[gZ,gV,gU];rw[rX (by omega) (by omega)];simp
    refine gK hys rfl (by decide) (by decide) (r:=.one (.d (.int .i64 ((i:Int)-1)))) (h':=h1++r) rfl fun ys hys=>?_;rw[lC,fI];refine⟨i,_,h1,Nat.lt_succ_self i,?_,by omega,rfl,⟨_,hys⟩,rfl,rfl,fun j h1 h2=>?_⟩
    ·refine gJ (kt4 h1.length) (h1++r) (ko1 _) (nodup_range _) (by rw[kq6 (by simp)]) (zg7 hh) ⟨⟨_,ko0 _,rfl⟩,⟨_,ko0 _,?_⟩,⟨_,ko0 _,rfl⟩,trivial⟩;simp[cF,bP,bT,aG,wF rfl hn]
    ·by_cases e:j=i
     ·subst e;exact hpi
     ·exact hp j (by omega) h2
   ·refine gK hys rfl (by decide) (by decide) (r:=.one (.d (.bool true))) (h':=h') rfl fun ys hys=>?_;rw[lC,fI,rY];exact⟨fun _=>hK,fun e=>(by cases e)⟩
  ·have e:¬0≤(m:Int)-1:=of_decide_eq_false e;have:m=0:=by omega
   subst this;exact hend fun j hj=>hp j (kt1 _) hj
theorem j60:xT kp8 307 19 zF0:=⟨Tryz.f307,_,Tryz.func307,rfl,rfl,rfl,by kernel_rfl,by kernel_rfl,rfl⟩
theorem j61 {H:aB} {c a:Nat} {ms:List Nat} {b:Option Nat} {A fr:List Int} {w:WS} (hR:Rg H c a ms b A w.nums) (hA:ms.length<1000000000) (hfr:fr.length<1000000000) (h0:0≤w.next) (n:Int) (hb:(cK fr id A n w).2.next<1000000000000000) :
  VC kp8 258 [.one (.ptr c 0),.one (.d (.int .i64 n))] (st H (cn c fr w.next (bdL b a ms.length) ms A w.nums)) fun r h'=>r = .one (.d (.int .i64 (cK fr id A n w).1))∧h'=st H (cn c fr (cK fr id A n w).2.next (bdL b a ms.length) ms A (cK fr id A n w).2.nums):=by
 have gc:=hR.gc;have sc:=hR.sc;have ga:=hR.ga;have hl:∀ov,(st H ov).length=H.length:=cD H;obtain⟨q,hq⟩:∃q,q=H.length:=⟨_,rfl⟩;simp only[←hq]at hl;refine aU mixed jR0 (by simp) ?_;show vwp kp8 (st H (cn c fr w.next (bdL b a ms.length) ms A w.nums)).length zE0 _ [(0,.one (.ptr c 0)),(1,.one (.d (.int .i64 n)))] (st H (cn c fr w.next (bdL b a ms.length) ms A w.nums));conv in zE0=>cbv
 rw[aO];have hbk:jR (V.one (bdL b a ms.length))=true:=by cases b<;>rfl
 simp -implicitDefEqProofs only[oS.d,J0,J1,J2,J3,J4,J5,J6,J7,J8,↓reduceIte,reduceCtorEq,hl,wg0 (hl _),wgk (hl _),ws0 (hl _),wsk (hl _),bY (hl _),kr3,gc,hbk];have hcq:c<q:=hq▸hR.c_;have haq:a<q:=hq▸hR.a_;have hclo:∀(N:List Int) (x:Int) (t:aB),Clo (q+t.length) t→Clo (st H (cn c fr x (bdL b a ms.length) ms A N)++t).length (st H (cn c fr x (bdL b a ms.length) ms A N)++t):=fun N x t ht=>by
  rw[bY (hl _)];exact(sK (hR.cl.mono (by omega)) (by omega)).app ht
 have hback:=j58 (hclo w.nums w.next [.box [.ptr c 0],.box [.d (.int .i64 n)],.box [.d (.int .i64 0)]] (by simp only[dS,eE,eM,fP,fQ,fB,fU,fV,fW,fX,eA,fY,fZ,eN,gA,gB,kt7,ku1,false_implies,implies_true,and_true,true_and,and_self,kr4,kr7,kt2,ks7]<;>omega)) (b:=b) (a:=a) (k:=ms.length) (by rw[bY (hl _)];omega);refine qO rfl hback (hclo _ _ _ (by simp only[dS,eE,eM,fP,fQ,fB,fU,fV,fW,fX,eA,fY,fZ,eN,gA,gB,kt7,ku1,false_implies,implies_true,and_true,true_and,and_self,kr4,kr7,kt2,ks7]<;>omega)) (fun v hv=>by simp only[kv0]at hv;subst hv;rw[bY (hl _)];exact zj8 (by simp only[kr4];omega)) ?_;rintro _ _ ⟨rfl,rfl⟩;refine⟨by simp,?_⟩;simp -implicitDefEqProofs only[oS.d,J0,J1,J2,J3,J4,J5,J6,J7,J8,↓reduceIte,reduceCtorEq,hl,wg0 (hl _),wgk (hl _),ws0 (hl _),wsk (hl _),bY (hl _),kr3,gc,hbk];show vwp _ _ _ _ _ _;refine⟨307,[.ptr (q+3) 0],19,_,rfl,by simp[dX,wgk (hl _)],j60,by simp,?_⟩;have hb_:=hR.b_;refine j59 (b:=b) (a:=a) (ms:=ms) hA (id:=q+3) (by rw[wgk (hl _)];rfl) (ga _ _ _ _ _) hb_ (hclo _ _ _ (by
  have:=zj8 (b:=b) (a:=a) (k:=ms.length) (n:=q+4) (by omega);simp only[dS,eE,eM,fB,eA,kt7,ku1,false_implies,implies_true,and_true,true_and,kr4,kr7,kt2,ks7,this];omega)) (fun j=>A[j]?≠some n) ?_ ?_
 ·intro i m hm hp K' hnx hr;refine⟨rfl,?_⟩;rw[aO];have gm:=hR.gm hm;have sm:=@Rg.sm _ _ _ _ _ _ _ hR i m hm;have hi:=(kp9.1 hm).1;obtain⟨x,hx⟩:=bK (l:=A) (i:=i) (by have:=hR.lA;omega);have hAx:A.getD i 0=x:=by simp[ku6,hx]
  obtain⟨y,hy⟩:∃y,w.nums.getD i 0=y:=⟨_,rfl⟩;rw[hAx]at gm sm;have sm1:=fun z v t=>sm fr z (bdL b a ms.length) (N:=w.nums) hR.lN v t;have hmq:m<q:=hq▸hR.ms_ m (kq0 hm);have hkeep:∀(z:Int) (T:Sl),kt8 2 T=some (.one (.ptr q 0))→kt8 6 T=some (.one (.ptr m 0))→kt8 4 T=some (.one (.ptr (q+2) 0))→fG (q+4) T (st H (cn c fr z (bdL b a ms.length) ms A w.nums)++[.box [.ptr c 0],.box [.d (.int .i64 n)],.box [.d (.int .i64 0)],.box [bdL b a ms.length]]) [(2,.one (.ptr q 0)),(6,.one (.ptr m 0)),(4,.one (.ptr (q+2) 0))] (st H (cn c fr z (bdL b a ms.length) ms A w.nums)++[.box [.ptr c 0],.box [.d (.int .i64 n)],.box [.d (.int .i64 0)],.box [bdL b a ms.length]]):=fun z T h2 h6 h4=>
   gJ (wid q [0,1,2,3]) _ (ko1 _) (gQ rfl) (zj7 rfl) (gR hq.symm (hq▸hR.cl) (qP haq) (by simp only[bA,kr6,ks4,bD,ks9,aG,gP hcq,qP haq,kt9]))
    ⟨(by rw[h2];exact⟨_,ko0 _,kN⟩),(by rw[h6];exact⟨_,ko0 _,wP hmq⟩),(by rw[h4];exact⟨_,ko0 _,cP⟩),trivial⟩
  by_cases he:x=n
  ·have hl1:cC A n=some i:=mN.2 ⟨he▸hx,fun j hj hc=>hp j hj (by have:=(kp9.1 hc).1;have:=hR.lA;omega) hc⟩;have e1:(x=n)=True:=by simp[he]
   simp -implicitDefEqProofs only[oS.d,J0,J1,J2,J3,J4,J5,J6,J7,J8,↓reduceIte,reduceCtorEq,mG,hl,wg0 (hl _),wgk (hl _),ws0 (hl _),wsk (hl _),bY (hl _)];rw[tX,aO];by_cases hy0:y<0
   ·have e2:(y<0)=True:=by simp[hy0]
    simp -implicitDefEqProofs only[oS.d,J0,J1,J2,J3,J4,J5,J6,J7,J8,↓reduceIte,reduceCtorEq,e1,e2,gm,gc,hy,hl,wg0 (hl _),wgk (hl _),ws0 (hl _),wsk (hl _),bY (hl _)];have hsk:=zM _ (ks0 fr.length) (tk:=fr) (k:=w.next);have hst:cK fr id A n w=(dG fr w.next,⟨w.nums.set i (dG fr w.next),dG fr w.next+1,w.free⟩):=by
     unfold cK;rw[hl1];simp only[hy,hy0,if_true]
    rw[hst]at hb;simp only at hb;refine bE (α:=Int) (fun _=>[(2,.one (.ptr q 0)),(6,.one (.ptr m 0)),(4,.one (.ptr (q+2) 0))])
     (fun x=>st H (cn c fr x (bdL b a ms.length) ms A w.nums)++[.box [.ptr c 0],.box [.d (.int .i64 n)],.box [.d (.int .i64 0)],.box [bdL b a ms.length]])
     (fun x=>w.next≤x∧dG fr x=dG fr w.next) (fun x=>(dG fr w.next-x).toNat) w.next (hkeep _ _ rfl rfl rfl) ⟨Int.le_refl _,rfl⟩ ?_
    rintro z ⟨hz1,hz2⟩;have hle:=(zM _ (ks0 fr.length) (tk:=fr) (k:=z)).1;have hh:=zQ fr z hfr;by_cases hx:z∈fr
    ·rw[show decide (z∈fr)=true from by simp[hx]]at hh;have hs:=jY5 hx;have hle2:=(zM _ (ks0 fr.length) (tk:=fr) (k:=z+1)).1;have hw:IntKind.i64.wrap (z+1)=z+1:=by rw[IntKind.wrap_i64];omega
     simp -implicitDefEqProofs only[oS.d,J0,J1,J2,J3,J4,J5,J6,J7,J8,↓reduceIte,reduceCtorEq,gm,gc,hl,wg0 (hl _),wgk (hl _),ws0 (hl _),wsk (hl _),bY (hl _)];refine aM [] hh rfl rfl rfl rfl ?_;simp -implicitDefEqProofs only[oS.d,J0,J1,J2,J3,J4,J5,J6,J7,J8,↓reduceIte,reduceCtorEq,gm,gc,sc,hw,hl,wg0 (hl _),wgk (hl _),ws0 (hl _),wsk (hl _),bY (hl _)];refine⟨z+1,⟨by omega,by rw[←hs,hz2]⟩,by omega,?_⟩;exact hkeep _ _ rfl rfl rfl
    ·rw[show decide (z∈fr)=false from by simp[hx]]at hh;have hs:=zI hx;have hx3:dG fr w.next=z:=by rw[←hz2,hs]
     rw[hx3]at hb hst;have hw:IntKind.i64.wrap (z+1)=z+1:=by rw[IntKind.wrap_i64];omega
     have hgz:(w.nums.set i z).getD i 0=z:=by
      rw[ku6,ky4 (by have:=hR.lN;omega)];rfl
     simp -implicitDefEqProofs only[oS.d,J0,J1,J2,J3,J4,J5,J6,J7,J8,↓reduceIte,reduceCtorEq,gm,gc,hl,wg0 (hl _),wgk (hl _),ws0 (hl _),wsk (hl _),bY (hl _)];refine aM [] hh rfl rfl rfl rfl ?_;simp -implicitDefEqProofs only[oS.d,J0,J1,J2,J3,J4,J5,J6,J7,J8,↓reduceIte,reduceCtorEq,gm,gc,sc,sm1,hw,hgz,hl,wg0 (hl _),wgk (hl _),ws0 (hl _),wsk (hl _),bY (hl _)];refine hr _ ?_;simp -implicitDefEqProofs only[oS.d,J0,J1,J2,J3,J4,J5,J6,J7,J8,↓reduceIte,reduceCtorEq,hl];refine aH (wid q []) (vs:=[.one (.d (.int .i64 z))]) ?_ (pD hq.symm (hq▸hR.cl) rfl (qP haq) rfl rfl) ?_
     ·simp[dI,cN,wgk (hl _),mkV,kt8,ti3]
     ·rw[hst,ku3];exact⟨rfl,rfl⟩
   ·have e2:(y<0)=False:=by simp;omega
    simp -implicitDefEqProofs only[oS.d,J0,J1,J2,J3,J4,J5,J6,J7,J8,↓reduceIte,reduceCtorEq,e1,e2,gm,gc,hy,hl,wg0 (hl _),wgk (hl _),ws0 (hl _),wsk (hl _),bY (hl _)];refine hr _ ?_;simp -implicitDefEqProofs only[oS.d,J0,J1,J2,J3,J4,J5,J6,J7,J8,↓reduceIte,reduceCtorEq,hl];refine aH (wid q []) (vs:=[.one (.d (.int .i64 y))]) ?_ (pD hq.symm (hq▸hR.cl) rfl (qP haq) rfl rfl) ?_
    ·simp[dI,cN,wgk (hl _),mkV,kt8,ti3]
    ·unfold cK;simp only[hl1,hy,hy0,if_false,ku3];exact⟨trivial,trivial⟩
  ·have e1:(x=n)=False:=by simp[he]
   simp -implicitDefEqProofs only[oS.d,J0,J1,J2,J3,J4,J5,J6,J7,J8,↓reduceIte,reduceCtorEq,mG,hl,wg0 (hl _),wgk (hl _),ws0 (hl _),wsk (hl _),bY (hl _)];rw[tX,aO];simp -implicitDefEqProofs only[oS.d,J0,J1,J2,J3,J4,J5,J6,J7,J8,↓reduceIte,reduceCtorEq,e1,gm,gc,hl,wg0 (hl _),wgk (hl _),ws0 (hl _),wsk (hl _),bY (hl _)];refine(ku3 (st _ _++_))▸hnx [] fun hc=>he (Option.some.inj (hx.symm.trans hc))
 ·intro hp;have hl1:cC A n=none:=iQ.2 fun hm=>by
   obtain⟨j,hj⟩:=kw9 hm;exact hp j (by have:=(kp9.1 hj).1;have:=hR.lA;omega) hj
  simp -implicitDefEqProofs only[oS.d,J0,J1,J2,J3,J4,J5,J6,J7,J8,↓reduceIte,reduceCtorEq,hl,wg0 (hl _),wgk (hl _),ws0 (hl _),wsk (hl _),bY (hl _),kr3,gc,hbk];refine aH (wid q []) (vs:=[.one (.d (.int .i64 n))]) ?_ (pD hq.symm (hq▸hR.cl) rfl (qP haq) rfl rfl) ?_
  ·simp[dI,cN,wgk (hl _),mkV,kt8,ti3]
  ·unfold cK;rw[hl1,ku3];exact⟨rfl,rfl⟩
theorem je0 {c a:Nat} {ms:List Nat} {b:Option Nat} {A fr:List Int} (hA:ms.length<1000000000) (hfr:fr.length<1000000000) :
  ∀(N:Nat) (t:Ty),tyn t≤N→N<100000000→∀(H:aB) (w:WS),Rg H c a ms b A w.nums→0≤w.next→(tyF fr id A t w).2.next<1000000000000000→
   VC kp8 222 [.one (.ptr c 0),tyV t] (st H (cn c fr w.next (bdL b a ms.length) ms A w.nums)) fun r h'=>r=tyV (tyF fr id A t w).1∧h'=st H (cn c fr (tyF fr id A t w).2.next (bdL b a ms.length) ms A (tyF fr id A t w).2.nums)
 |0,.mk k n l,h,_,_,_,_,_,_=>by simp only[tyn]at h;omega
 |N+1,.mk k n l,h,hN,H,w,hR,h0,hb=>by
  have ih:=je0 (c:=c) (a:=a) (ms:=ms) (b:=b) (A:=A) hA hfr N;simp only[tyn,mK]at h;have hlen:=eC (f:=tyn) (fun t=>by cases t;simp[tyn]) l;have hcl:=zJ6 l (by omega);have hl3:(ks8 l).length=l.length:=cS l;rw[hl3]at hcl;simp only[tyF,lE]at hb ⊢;have hl:∀ov,(st H ov).length=H.length:=cD H;obtain⟨q,hq⟩:∃q,q=H.length:=⟨_,rfl⟩;simp only[←hq]at hl;have gc:=hR.gc;have hcq:c<q:=hq▸hR.c_;have haq:a<q:=hq▸hR.a_;simp only[tyV,aF,kq1,kq5];refine aU mixed jP7 (by simp) ?_;show vwp kp8 (st H (cn c fr w.next (bdL b a ms.length) ms A w.nums)).length zC9 _ [(0,.one (.ptr c 0)),(1,.agg [.d (.int .i64 k),.d (.int .i64 n),.d (.sl (ks8 l))])] (st H (cn c fr w.next (bdL b a ms.length) ms A w.nums));conv in zC9=>cbv
  rw[aO];have hbt:=zI8 (tk:=fr) (sb:=id) (A:=A) n w;have hL:=fun w=>zJ0 (tk:=fr) (sb:=id) (A:=A) l w;rcases Classical.em (k=6)with hk|hk
  case' inl=>
   have hk1:(k=6)=True:=by simp[hk]
   have hk2:k=gN:=hk;simp only[if_pos hk2]at hb ⊢;have hst:=fun t ht=>j61 (H:=H++t) (hR.app ht) hA hfr h0 n (by have:=(hL (cK fr id A n w).2).2.1;omega);have hR1:Rg H c a ms b A (cK fr id A n w).2.nums:=hR.withN hbt.1;have h01:0≤(cK fr id A n w).2.next:=by have:=hbt.2.1;omega
   generalize cK fr id A n w=S at hst hb hR1 h01 ⊢;obtain⟨n1,w1⟩:=S;simp only at hst hb hR1 h01 ⊢;simp -implicitDefEqProofs only[oS.d,J0,J1,J2,J3,J4,J5,J6,J7,J8,↓reduceIte,reduceCtorEq,hk1,hl,wg0 (hl _),wgk (hl _),ws0 (hl _),wsk (hl _),bY (hl _),kr3,gc];refine jd7 hR hq.symm (by simp only[dS,eE,eM,fP,fQ,fB,fU,fV,fW,fX,eA,fY,fZ,eN,gA,gB,kt7,ku1,false_implies,implies_true,and_true,true_and,and_self,kr4,kr7,kt2,ks7]<;>omega) (by simp only[dS,eE,eM,fP,fQ,fB,fU,fV,fW,fX,eA,fY,fZ,eN,gA,gB,kt7,ku1,false_implies,implies_true,and_true,true_and,and_self,kr4,kr7,kt2,ks7]<;>omega) (hst _ (hq▸(by simp only[dS,eE,eM,fP,fQ,fB,fU,fV,fW,fX,eA,fY,fZ,eN,gA,gB,kt7,ku1,false_implies,implies_true,and_true,true_and,and_self,kr4,kr7,kt2,ks7]<;>omega))) ?_;simp -implicitDefEqProofs only[oS.d,J0,J1,J2,J3,J4,J5,J6,J7,J8,↓reduceIte,reduceCtorEq,hl,wg0 (hl _),wgk (hl _),ws0 (hl _),wsk (hl _),bY (hl _),kr3,gc]
  case' inr=>
   have hk1:(k=6)=False:=by simp[hk]
   have hk2:¬k=gN:=hk;simp only[if_neg hk2]at hb ⊢;obtain⟨w1,rfl⟩:∃w1,w1=w:=⟨_,rfl⟩;obtain⟨n1,rfl⟩:∃n1,n1=n:=⟨_,rfl⟩;have hR1:=hR;have h01:=h0;simp -implicitDefEqProofs only[oS.d,J0,J1,J2,J3,J4,J5,J6,J7,J8,↓reduceIte,reduceCtorEq,hk1,hl,wg0 (hl _),wgk (hl _),ws0 (hl _),wsk (hl _),bY (hl _),kr3,gc]
  all_goals
   refine bJ [] hcl rfl rfl rfl ?_;rintro _ _ (⟨he,rfl,rfl⟩|⟨rfl,rfl⟩)
   ·have hl0:l=[]:=ku2.1 (by rw[←hl3,he];rfl);subst hl0;refine⟨_,_,rfl,?_⟩;simp -implicitDefEqProofs only[oS.d,J0,J1,J2,J3,J4,J5,J6,J7,J8,↓reduceIte,reduceCtorEq,hl,wg0 (hl _),wgk (hl _),ws0 (hl _),wsk (hl _),bY (hl _),kr3,gc];refine bE (α:=Unit) (fun _=>[(22,.one (.d (.int .i64 0))),(21,.one (.d (.int .i64 0))),(3,.one (.ptr q 0)),(4,.one (.ptr (q+1) 0))]) (fun _=>st H (cn c fr w1.next (bdL b a ms.length) ms A w1.nums)++[.box [.d (.int .i64 k),.d (.int .i64 n1),.nils],.box [.d (.int .i64 0),.d (.int .i64 0),.nils]]) (fun _=>True) (fun _=>0) ()
     (gJ (wid q [0,1]) _ (ko1 _) (gQ rfl) jV (gR hq.symm (hq▸hR.cl) (qP haq) (by simp only[bA,kr6,ks4,bD,ks9,aG,kt9]))
      ⟨⟨_,ko0 _,rfl⟩,⟨_,ko0 _,rfl⟩,⟨_,ko0 _,kN⟩,⟨_,ko0 _,cP⟩,trivial⟩) trivial ?_
    intro _ _;have h00:((0:Int)<0)=False:=by simp
    simp -implicitDefEqProofs only[oS.d,J0,J1,J2,J3,J4,J5,J6,J7,J8,↓reduceIte,reduceCtorEq,h00,hl,wg0 (hl _),wgk (hl _),ws0 (hl _),wsk (hl _),bY (hl _),kr3,gc];refine zr8 [] (wid q []) (vs:=[.agg [.d (.int .i64 k),.d (.int .i64 n1),.nils]]) (r1:=.agg [.d (.int .i64 k),.d (.int .i64 n1),.d (.sl [])]) ?_ rfl ⟨.inl rfl,.inl rfl,.inr (.inl ⟨rfl,rfl⟩),trivial⟩ (ko1 _) (pD hq.symm (hq▸hR.cl) rfl (qP haq) rfl rfl) ?_
    ·simp[dI,cN,wgk (hl _),mkV,kt8,kG]
    ·rw[ku3];first
     |simp only[if_pos hk2];first|exact⟨rfl,rfl⟩|exact⟨trivial,trivial⟩
     |simp only[if_neg hk2];first|exact⟨rfl,rfl⟩|exact⟨trivial,trivial⟩
   ·refine⟨_,_,rfl,?_⟩;simp -implicitDefEqProofs only[oS.d,J0,J1,J2,J3,J4,J5,J6,J7,J8,↓reduceIte,reduceCtorEq,hl,wg0 (hl _),wgk (hl _),ws0 (hl _),wsk (hl _),bY (hl _),kr3,gc];have hLb:=hL w1;have hwb:=fun i=>j09 (f:=tyF fr id A) (c:=tyn) (l:=l) (fun t _ w=>qM t w) i w1;have hwl:=fun i=>zI9 (f:=tyF fr id A) (l.take i) w1;obtain⟨W,hW⟩:∃W,W=fun i=>(aX (tyF fr id A) (l.take i) w1).2:=⟨_,rfl⟩;obtain⟨X,hX⟩:∃X,X=fun i=>ks8 ((aX (tyF fr id A) (l.take i) w1).1++l.drop i):=⟨_,rfl⟩;have hkeep:∀(i:Nat) (T:Sl) (x:aB),kt8 22 T=some (.one (.d (.int .i64 i)))→kt8 21 T=some (.one (.d (.int .i64 l.length)))→kt8 20 T=some (.one (.own (q+2) 1 l.length))→kt8 0 T=some (.one (.ptr c 0))→kt8 3 T=some (.one (.ptr q 0))→kt8 4 T=some (.one (.ptr (q+1) 0))→
      fG q T (st H (cn c fr (W i).next (bdL b a ms.length) ms A (W i).nums)++.box [.d (.int .i64 k),.d (.int .i64 n1),.own (q+2) 1 l.length]::.box [.d (.int .i64 0),.d (.int .i64 0),.nils]::.arr false 3 1 (X i)::x)
       [(22,.one (.d (.int .i64 i))),(21,.one (.d (.int .i64 l.length))),(20,.one (.own (q+2) 1 l.length)),(0,.one (.ptr c 0)),(3,.one (.ptr q 0)),(4,.one (.ptr (q+1) 0))]
       (st H (cn c fr (W i).next (bdL b a ms.length) ms A (W i).nums)++[.box [.d (.int .i64 k),.d (.int .i64 n1),.own (q+2) 1 l.length],.box [.d (.int .i64 0),.d (.int .i64 0),.nils],.arr false 3 1 (X i)]):=fun i T x h1 h2 h3 h4 h5 h6=>
     gJ (wid q [0,1,2]) _ (ko1 _) (gQ rfl) jV (gR hq.symm (hq▸hR.cl) (qP haq) (by simp only[bA,kr6,ks4,bD,ks9,aG,kt9,fD];rfl))
      ⟨by rw[h1];exact⟨_,ko0 _,rfl⟩,by rw[h2];exact⟨_,ko0 _,rfl⟩,by rw[h3];exact⟨_,ko0 _,zL5 rfl⟩,by rw[h4];exact⟨_,ko0 _,wP hcq⟩,by rw[h5];exact⟨_,ko0 _,kN⟩,by rw[h6];exact⟨_,ko0 _,cP⟩,trivial⟩
    refine bE (α:=Nat) (fun i=>[(22,.one (.d (.int .i64 i))),(21,.one (.d (.int .i64 l.length))),(20,.one (.own (q+2) 1 l.length)),(0,.one (.ptr c 0)),(3,.one (.ptr q 0)),(4,.one (.ptr (q+1) 0))])
     (fun i=>st H (cn c fr (W i).next (bdL b a ms.length) ms A (W i).nums)++[.box [.d (.int .i64 k),.d (.int .i64 n1),.own (q+2) 1 l.length],.box [.d (.int .i64 0),.d (.int .i64 0),.nils],.arr false 3 1 (X i)])
     (fun i=>i≤l.length) (fun i=>l.length-i) 0 ?_ (kt1 _) ?_
    ·have e0:W 0=w1:=by rw[hW];rfl
     have e1:X 0=ks8 l:=by rw[hX];rfl
     have:=hkeep 0;rw[e0,e1]at this;simp only[e0,e1];refine this _ [] ?_ ?_ ?_ ?_ ?_ ?_<;>rfl
    ·intro i hi;have hw:=bQ (a:=i) rfl (by omega);have hXl:(X i).length=l.length:=by rw[hX];simp only[cS,kq3,hwl,kt3,List.length_drop];omega
     rcases Nat.lt_or_ge i l.length with h5|h5
     ·have hc:((i:Int)<(l.length:Int))=True:=by simp;omega
      obtain⟨u,hu⟩:=bK h5;have hg:(X i)[i]?=some (aF u):=by
       rw[hX];simp only[eI,kF5];rw[kr5 (by simp only[kr8,hwl,kt3];omega)];simp only[kr8,hwl,kt3,ks1,List.getElem?_drop];rw[show i+(i-min i l.length)=i by omega,hu];rfl
      have hmt:=ja1 (f:=tyF fr id A) hu w1;have l1:(i:Int)<(l.length:Int):=by omega
      have e1:(tyF fr id A u (W i)).2=W (i+1):=by rw[hW];simp only[hmt]
      have e2:(X i).set i (aF (tyF fr id A u (W i)).1)=X (i+1):=by
       rw[hX,hW];simp only[hmt,eI,kF5];rw[kx2 _ _ (by simp only[kr8,hwl,kt3];omega)];simp only[kr8,hwl,kt3,←List.map_drop,kG3 h5,kq1,kq5,show i-min i l.length=0 by omega,ku7,kr3,kr0,kr2]
      have iu:=fun t ht hwn=>ih u (by have:=dB (f:=tyn) (kq0 hu);omega) (by omega) (H++t) (W i) ((hR1.app ht).withN hwn);have hR2:=hwb i;have hR3:=hwb (i+1);have hWi:∀i,W i=(aX (tyF fr id A) (l.take i) w1).2:=fun i=>by rw[hW]
      rw[←hWi]at hR2 hR3;have iu1:=fun t ht=>iu t ht hR2.1.1 (by have:=hR2.1.2.1;omega) (by rw[e1];have:=hR3.2;omega);rw[e1]at iu1;generalize tyF fr id A u (W i)=R at iu1 e2;obtain⟨⟨rk,rn,rl⟩,w2⟩:=R;obtain⟨uk,un,ul⟩:=u;simp only[tyV,aF,kq1,kq5]at iu1 hg e2;simp -implicitDefEqProofs only[oS.d,J0,J1,J2,J3,J4,J5,J6,J7,J8,↓reduceIte,reduceCtorEq,hc,hg,l1,kq2,kq4,hl,wg0 (hl _),wgk (hl _),ws0 (hl _),wsk (hl _),bY (hl _),kr3,gc];refine jd7 hR hq.symm (by simp only[dS,eE,eM,fP,fQ,fB,fU,fV,fW,fX,eA,fY,fZ,eN,gA,gB,kt7,ku1,false_implies,implies_true,and_true,true_and,and_self,kr4,kr7,kt2,ks7]<;>omega) (by simp only[dS,eE,eM,fP,fQ,fB,fU,fV,fW,fX,eA,fY,fZ,eN,gA,gB,kt7,ku1,false_implies,implies_true,and_true,true_and,and_self,kr4,kr7,kt2,ks7]<;>omega) (iu1 _ (hq▸(by simp only[dS,eE,eM,fP,fQ,fB,fU,fV,fW,fX,eA,fY,fZ,eN,gA,gB,kt7,ku1,false_implies,implies_true,and_true,true_and,and_self,kr4,kr7,kt2,ks7]<;>omega))) ?_;simp -implicitDefEqProofs only[oS.d,J0,J1,J2,J3,J4,J5,J6,J7,J8,↓reduceIte,reduceCtorEq,hc,hXl,hg,l1,e2,hw,kq2,kq4,hl,wg0 (hl _),wgk (hl _),ws0 (hl _),wsk (hl _),bY (hl _),kr3,gc];refine⟨i+1,by omega,by omega,?_⟩;refine hkeep (i+1) _ [_] ?_ ?_ ?_ ?_ ?_ ?_<;>rfl
     ·have hc:((i:Int)<(l.length:Int))=False:=by simp;omega
      have hie:i=l.length:=by omega
      subst hie;simp -implicitDefEqProofs only[oS.d,J0,J1,J2,J3,J4,J5,J6,J7,J8,↓reduceIte,reduceCtorEq,hc,hl,wg0 (hl _),wgk (hl _),ws0 (hl _),wsk (hl _),bY (hl _),kr3,gc];refine aH (wid q []) (vs:=[.agg [.d (.int .i64 k),.d (.int .i64 n1),.own (q+2) 1 l.length]]) ?_ (pD hq.symm (hq▸hR.cl) rfl (qP haq) rfl (r':=.agg [.d (.int .i64 k),.d (.int .i64 n1),.d (.sl ((X l.length).take l.length))]) ?_) ?_
      ·simp[dI,cN,wgk (hl _),mkV,kt8,kG]
      ·simp[dA,cF,bP,cW,bT,aG,pC,fD,idx,wgk (hl _)]
      ·rw[ku3,kq6 (by omega),hX,hW];simp only[List.take_length,List.drop_length,ku3];first
       |simp only[if_pos hk2];first|exact⟨rfl,rfl⟩|exact⟨trivial,trivial⟩
       |simp only[if_neg hk2];first|exact⟨rfl,rfl⟩|exact⟨trivial,trivial⟩
end Go.Vt.Tryz
