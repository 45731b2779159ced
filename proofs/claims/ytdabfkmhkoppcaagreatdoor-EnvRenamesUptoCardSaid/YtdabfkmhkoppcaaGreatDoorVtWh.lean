import Derived.Test.YtdabfkmhkoppcaaGreatDoorVtD13
import Derived.Test.YtdabfkmhkoppcaaGreatDoorVtA1
import Derived.Test.YtdabfkmhkoppcaaGreatDoorVtX1
import Derived.Test.YtdabfkmhkoppcaaGreatDoorVtA8
import Derived.Test.YtdabfkmhkoppcaaGreatDoorVtW1
set_option linter.all false
set_option maxHeartbeats 2000000
set_option maxRecDepth 100000
open Bool renaming and_eq_true→kf8,not_eq_true'→kt3
open Int renaming natCast_nonneg→kd8,toNat_natCast→kd9
open List renaming append_assoc→kf1,append_nil→ki0,cons_append→kg6,contains_eq_mem→kr7,drop_eq_getElem_cons→kl9,ext_getElem?→km3,forall_mem_cons→kh3,getD_eq_getElem?_getD→kj0,getElem?_append_left→kf7,getElem?_append_right→kf4,getElem?_cons_succ→kf9,getElem?_cons_zero→kf5,getElem?_eq_getElem→ke7,getElem?_eq_none→km6,getElem?_eq_some_iff→kd6,getElem?_map→ke6,getElem?_of_mem→kk9,getElem?_set_self→kl8,getElem?_set→km1,length_append→ke1,length_cons→kf6,length_eq_zero_iff→ki3,length_map→ke9,length_nil→kg0,length_range→ko6,length_take→kg2,lookup→ki4,map_append→ko0,map_cons→ke5,map_nil→ke8,mem_append→kh1,mem_map→kn1,mem_of_getElem?→kd7,mem_singleton→ki8,nil_append→kh0,not_mem_nil→kh9,range→kh4,replicate→kj5,set_append_left→kv5,set_append_right→kk5,set_cons_zero→km2,take_of_length_le→ke0
open Nat renaming add_sub_cancel_left→kj9,le_refl→kf2,reduceAdd→kg8,sub_self→kr1,zero_add→kh8,zero_le→kg1
open Option renaming getD_none→kw3,getD_some→kp0,map_eq_some_iff→kj4,map_none→kw7,map_some→kh5
open Go.Proofs.Tryz renaming prog→kd5
open Go.Vt.aG renaming encs→kf0
open Go.Vt.aJ renaming renLs→kg3
open Go.Vt renaming mkV→J1
open Nat renaming reduceBEq→J2,reduceLeDiff→J5,reduceAdd→J6,reduceSub→J8
namespace Go.Vt.Tryz
open Go.Proofs
def lt (n i:Nat):Option Nat:=if i<n then some i else none
mutual
theorem yV {m:Nat→Option Nat} {n:Nat} (hm:∀i,i<n→m i=some i):∀l:L,aJ (lt n) l=some l→aJ m l=some l
 |.d _,_=>rfl
 |.nils,_=>rfl
 |.own id _ _,h=>by
  simp only[aJ,lt]at h ⊢;by_cases hi:id<n
  ·rw[hm id hi];rfl
  ·rw[if_neg hi]at h;cases h
 |.ptr id _,h=>by
  simp only[aJ,lt]at h ⊢;by_cases hi:id<n
  ·rw[hm id hi];rfl
  ·rw[if_neg hi]at h;cases h
 |.ept id _ _ _,h=>by
  simp only[aJ,lt]at h ⊢;by_cases hi:id<n
  ·rw[hm id hi];rfl
  ·rw[if_neg hi]at h;cases h
 |.ref _,_=>rfl
 |.fn f caps,h=>by
  simp only[aJ]at h ⊢;cases e:kg3 (lt n) caps with
  |none=>rw[e]at h;cases h
  |some xs=>
   rw[e]at h;simp only[kh5,Option.some.injEq,L.fn.injEq,true_and]at h;rw[h]at e;rw[yW hm _ e];rfl
 |.nilf,_=>rfl
 |.any,_=>rfl
 |.bsl id _ _,h=>by
  simp only[aJ,lt]at h ⊢;by_cases hi:id<n
  ·rw[hm id hi];rfl
  ·rw[if_neg hi]at h;cases h
 |.osl id _ _ _,h=>by
  simp only[aJ,lt]at h ⊢;by_cases hi:id<n
  ·rw[hm id hi];rfl
  ·rw[if_neg hi]at h;cases h
 |.nili,_=>rfl
 |.fb f fst,h=>by
  simp only[aJ]at h ⊢;cases e:kg3 (lt n) fst with
  |none=>rw[e]at h;cases h
  |some xs=>
   rw[e]at h;simp only[kh5,Option.some.injEq,L.fb.injEq,true_and]at h;rw[h]at e;rw[yW hm _ e];rfl
 termination_by l=>SizeOf.sizeOf l
theorem yW {m:Nat→Option Nat} {n:Nat} (hm:∀i,i<n→m i=some i):∀l:List L,kg3 (lt n) l=some l→kg3 m l=some l
 |[],_=>rfl
 |x::r,h=>by
  simp only[kg3]at h ⊢;cases e1:aJ (lt n) x with
  |none=>rw[e1]at h;cases h
  |some y=>cases e2:kg3 (lt n) r with
   |none=>rw[e1,e2]at h;cases h
   |some ys=>
    rw[e1,e2]at h;simp only[Option.some.injEq,List.cons.injEq]at h;rw[h.1]at e1;rw[h.2]at e2;rw[yV hm _ e1,yW hm _ e2]
 termination_by l=>SizeOf.sizeOf l
end
theorem yX {m:Nat→Option Nat} {n:Nat} (hm:∀i,i<n→m i=some i) {o:aN} (h:bH (lt n) o=some o):bH m o=some o:=by
 cases o with
 |bx ty cells=>
  simp only[bH]at h ⊢;cases e:kg3 (lt n) cells with
  |none=>rw[e]at h;cases h
  |some xs=>
   rw[e]at h;simp only[kh5,Option.some.injEq,aN.bx.injEq,true_and]at h;subst h;rw[yW hm _ e];rfl
 |ar=>rfl
 |dead=>rfl
def Clo (n:Nat) (h:aB):Prop:=∀o∈h,bH (lt n) o=some o
theorem qY {n i:Nat} (h:i<n):lt n i=some i:=if_pos h
theorem Clo.mono {n m:Nat} {h:aB} (hc:Clo n h) (hnm:n≤m):Clo m h:=fun o ho=>yX (fun _ hi=>qY (by omega)) (hc o ho)
theorem Clo.app {n:Nat} {h t:aB} (a:Clo n h) (b:Clo n t):Clo n (h++t):=fun o ho=>(kh1.1 ho).elim (a o) (b o)
theorem zF8 {h:aB} {m:Nat→Option Nat}:∀(ids:List Nat) (xs:aB),xs.length=ids.length→(∀(k id:Nat),ids[k]?=some id→∃o o',h[id]?=some o∧bH m o=some o'∧xs[k]?=some o')→bB h m ids=some xs
 |[],xs,e,_=>by cases xs with|nil=>rfl|cons=>cases e
 |id::r,xs,e,hk=>by
  cases xs with
  |nil=>cases e
  |cons x xs=>
   obtain⟨o,o',h1,h2,h3⟩:=hk 0 id rfl;simp only[kf5,Option.some.injEq]at h3;subst h3;have:=zF8 (h:=h) (m:=m) r xs (by simpa using e) fun k i hi=>by
    obtain⟨p,p',a,b,c⟩:=hk (k+1) i (by simpa using hi);exact⟨p,p',a,b,by simpa using c⟩
   simp only[bB,h1,h2,this]
theorem zg2 {n i:Nat}:idx (kh4 n) i=lt n i:=by
 unfold lt;split
 ·rename_i h;exact uN rfl h
 ·rename_i h;cases e:idx (kh4 n) i with
  |none=>rfl
  |some k=>
   have:=kd7 (kS e);simp at this;omega
theorem zg3 {h:aB} (hc:Clo h.length h):bB h (idx (kh4 h.length)) (kh4 h.length)=some h:=by
 refine zF8 _ _ (by simp) fun k id hk=>?_;obtain⟨hlt,e⟩:=kd6.1 hk;simp only[ko6]at hlt;simp only[List.getElem_range]at e;subst e;have:h[k]?=some h[k]:=ke7 hlt;exact⟨_,_,this,yX (fun i hi=>by rw[zg2,qY hi]) (hc _ (List.getElem_mem hlt)),this⟩
theorem yY {n k:Nat}:dR (kh4 n) n k=some k:=by
 unfold dR;by_cases h:k<n
 ·simp[h]
 ·simp[h];omega
mutual
theorem z77 {n:Nat}:∀l:L,aJ (dR (kh4 n) n) l=some l
 |.d _=>rfl
 |.nils=>rfl
 |.own ..=>by simp only[aJ,yY];rfl
 |.ptr ..=>by simp only[aJ,yY];rfl
 |.ept ..=>by simp only[aJ,yY];rfl
 |.ref _=>rfl
 |.fn f caps=>by simp only[aJ,yZ caps];rfl
 |.nilf=>rfl
 |.any=>rfl
 |.bsl ..=>by simp only[aJ,yY];rfl
 |.osl ..=>by simp only[aJ,yY];rfl
 |.nili=>rfl
 |.fb f fst=>by simp only[aJ,yZ fst];rfl
theorem yZ {n:Nat}:∀l:List L,kg3 (dR (kh4 n) n) l=some l
 |[]=>rfl
 |x::r=>by simp only[kg3,z77 x,yZ r]
end
theorem j06 {n:Nat} (o:aN):bH (dR (kh4 n) n) o=some o:=by
 cases o with
 |bx ty cells=>simp only[bH,yZ];rfl
 |ar=>rfl
 |dead=>rfl
theorem zF9 {n:Nat}:∀h:aB,iU (dR (kh4 n) n) h=some h
 |[]=>rfl
 |o::r=>by simp only[iU,j06,zF9 r]
mutual
theorem zG0 {n:Nat}:∀v:V,fY (dR (kh4 n) n) v=some v
 |.one l=>by simp only[fY,z77];rfl
 |.agg ls=>by simp only[fY,yZ];rfl
 |.tup vs=>by simp only[fY,z78 vs];rfl
theorem z78 {n:Nat}:∀l:List V,fY.renVs (dR (kh4 n) n) l=some l
 |[]=>rfl
 |x::r=>by simp only[fY.renVs,zG0 x,z78 r]
end
def clL (n:Nat) (l:L):Prop:=aJ (lt n) l=some l
def clV (n:Nat):V→Prop
 |.one l=>clL n l
 |.agg ls=>∀l∈ls,clL n l
 |.tup _=>False
theorem z79 {h:aB} {n:Nat} {l:L} (hl:clL n l):bO h (kh4 n) l=some l∧jZ (kh4 n) l=[]:=by
 have hm:∀i,i<n→idx (kh4 n) i=some i:=fun i hi=>by rw[zg2,qY hi]
 have hr:=yV hm l hl;cases l with
 |own id ver len=>
  unfold clL at hl;simp only[aJ,lt]at hl;by_cases hi:id<n
  ·simp only[bO,jZ,hm id hi,and_self]
  ·rw[if_neg hi]at hl;cases hl
 |_=>exact⟨hr,rfl⟩
theorem z80 {h:aB} {n:Nat}:∀{ls:List L},(∀l∈ls,clL n l)→dG h (kh4 n) ls=some ls∧kR (kh4 n) ls=[]
 |[],_=>⟨rfl,rfl⟩
 |x::r,hl=>by
  obtain⟨a,b⟩:=z79 (h:=h) (hl x (.head _));obtain⟨c,d⟩:=z80 (h:=h) (ls:=r) fun l hm=>hl l (.tail _ hm);simp only[dG,kR,a,b,c,d,ki0,and_self]
theorem zg4 {h:aB} {n:Nat}:∀{vs:List V},(∀v∈vs,clV n v)→cL h (kh4 n) vs=some vs∧dK (kh4 n) vs=[]
 |[],_=>⟨rfl,rfl⟩
 |x::r,hl=>by
  obtain⟨c,d⟩:=zg4 (h:=h) (vs:=r) fun l hm=>hl l (.tail _ hm);have hx:=hl x (.head _);cases x with
  |one l=>
   obtain⟨a,b⟩:=z79 (h:=h) (l:=l) hx;simp only[cL,dK,bM,lD,a,b,c,d,kh5,ki0,and_self]
  |agg ls=>
   obtain⟨a,b⟩:=z80 (h:=h) (ls:=ls) hx;simp only[cL,dK,bM,lD,a,b,c,d,kh5,ki0,and_self]
  |tup vs=>exact hx.elim
theorem z81:∀(h os:aB),h.length≤os.length→eS h (kh4 h.length) (os.take h.length)++os.drop h.length=os:=by
 intro h os hle;have:eS h (kh4 h.length) (os.take h.length)=os.take h.length:=by
  apply km3;intro i;rw[zR (nI _) (by simp;omega) (fun k id hk=>by have:=kd7 hk;simpa using this)];rw[zg2];unfold lt;by_cases hi:i<h.length
  ·simp[hi]
  ·simp[hi];omega
 rw[this,List.take_append_drop]
section
variable {P:Program} {h:aB} {K:Kn (V×aB)}
theorem pO {f:FuncId} {avs:List V} {H:aB} {Post:V→aB→Prop} (e:h=H) (hc:VC P f avs H Post) (hcl:Clo H.length H) (hv:∀v∈avs,clV H.length v)
  (hk:∀r h',Post r h'→H.length≤h'.length∧K.run (r,h')):@jN P f avs h K:=by
 subst e;obtain⟨a,b⟩:=zg4 (h:=h) hv;refine bI (kh4 h.length) hc (nI _) a (zg3 hcl) fun r hs' hp=>?_;obtain⟨hl,hkr⟩:=hk r hs' hp;refine⟨r,hs',?_,hkr⟩;unfold lE;rw[b];split
 ·rename_i hx;simp only[kf8,List.isEmpty_iff,List.range_eq_nil]at hx;obtain⟨⟨h0,_⟩,h1⟩:=hx;have:h=[]:=ki3.1 h0;rw[this,h1]
 ·simp only[zG0,zF9,eC];rw[ko6,z81 _ _ hl]
end
theorem iQ {n:Nat}:Clo n []↔True:=by simp[Clo]
theorem fB {n:Nat} {o:aN} {t:aB}:Clo n (o::t)↔bH (lt n) o=some o∧Clo n t:=by simp[Clo]
theorem zg5 {n:Nat}:∀{l:List L},kg3 (lt n) l=some l↔∀x∈l,clL n x
 |[]=>by simp[kg3]
 |x::r=>by
  rw[kh3,←zg5 (l:=r)];simp only[kg3,clL];constructor
  ·intro h;cases e1:aJ (lt n) x with
   |none=>rw[e1]at h;cases h
   |some y=>cases e2:kg3 (lt n) r with
    |none=>rw[e1,e2]at h;cases h
    |some ys=>rw[e1,e2]at h;simpa using h
  ·rintro⟨e1,e2⟩;rw[e1,e2]
theorem jJ {n:Nat} {ty:Option TypeId} {cells:List L}:bH (lt n) (.bx ty cells)=some (.bx ty cells)↔∀l∈cells,clL n l:=by
 rw[←zg5];simp only[bH];cases kg3 (lt n) cells<;>simp
theorem qZ {n:Nat} {ty:Option TypeId} {fz:Bool} {sz v:Nat} {xs:List (List D)}:bH (lt n) (.ar ty fz sz v xs)=some (.ar ty fz sz v xs)↔True:=by simp[bH]
theorem j07 {n:Nat}:bH (lt n) .dead=some .dead↔True:=by simp[bH]
theorem fP {n:Nat} {x:D}:clL n (.d x)↔True:=by simp[clL,aJ]
theorem mR {n:Nat}:clL n .nils↔True:=by simp[clL,aJ]
theorem eN {n i k:Nat}:clL n (.ptr i k)↔i<n:=by simp only[clL,aJ,lt];split<;>simp_all
theorem rA {n i k v:Nat}:clL n (.own i v k)↔i<n:=by simp only[clL,aJ,lt];split<;>simp_all
theorem zA {n f:Nat} {caps:List L}:clL n (.fn f caps)↔∀l∈caps,clL n l:=by
 rw[←zg5];simp only[clL,aJ];cases kg3 (lt n) caps<;>simp
theorem pP {n:Nat} {l:L}:clV n (.one l)↔clL n l:=Iff.rfl
theorem vD {n:Nat} {ls:List L}:clV n (.agg ls)↔∀l∈ls,clL n l:=Iff.rfl
def st (H:aB) (ov:Nat→Option aN):aB:=H.mapIdx fun i o=>(ov i).getD o
theorem iR (H:aB) (ov:Nat→Option aN) (i:Nat):(st H ov)[i]?=(H[i]?).map fun o=>(ov i).getD o:=by simp[st]
theorem cC (H:aB) (ov:Nat→Option aN):(st H ov).length=H.length:=by simp[st]
theorem zG1 {H t:aB} {ov:Nat→Option aN} (h:∀i o,ov i=some o→i<H.length):st (H++t) ov=st H ov++t:=by
 apply km3;intro i;rw[iR];by_cases hi:i<H.length
 ·rw[kf7 hi,kf7 (by rw[cC];exact hi),iR]
 ·rw[kf4 (by omega),kf4 (by rw[cC];omega),cC];have:ov i=none:=by cases e:ov i with|none=>rfl|some o=>exact absurd (h i o e) hi
  rw[this];simp
theorem z82 {H:aB} {ov:Nat→Option aN} {a:Nat} {o:aN} (h:ov a=none):(st H ov).set a o=st (H.set a o) ov:=by
 apply km3;intro i;rw[iR,km1,km1,cC,iR];by_cases e:a=i
 ·subst e;simp only[if_true];split
  ·rw[h];rfl
  ·rfl
 ·rw[if_neg e,if_neg e]
theorem zG2 {H:aB} {ov ov':Nat→Option aN} {a:Nat} {o:aN} (h:ov' a=some o) (hx:∀i,i≠a→ov' i=ov i):(st H ov).set a o=st H ov':=by
 apply km3;intro i;rw[iR,km1,cC,iR];by_cases e:a=i
 ·subst e;simp only[if_true];split
  ·rename_i hl;rw[ke7 hl,h];rfl
  ·rename_i hl;rw[km6 (by omega)];rfl
 ·rw[if_neg e,hx i (Ne.symm e)]
theorem wg0 {n:Nat} {G t:aB} (h:G.length=n):(G++t)[n]?=t[0]?:=by rw[kf4 (by omega),h,kr1]
theorem wgk {n k:Nat} {G t:aB} (h:G.length=n):(G++t)[n+k]?=t[k]?:=by rw[kf4 (by omega),h,kj9]
theorem wgl {n i:Nat} {G t:aB} (h:G.length=n) (hi:i<n):(G++t)[i]?=G[i]?:=by rw[kf7 (by omega)]
theorem ws0 {n:Nat} {G t:aB} {o:aN} (h:G.length=n):(G++t).set n o=G++t.set 0 o:=by rw[kk5 _ _ (by omega),h,kr1]
theorem wsk {n k:Nat} {G t:aB} {o:aN} (h:G.length=n):(G++t).set (n+k) o=G++t.set k o:=by rw[kk5 _ _ (by omega),h,kj9]
theorem wsl {n i:Nat} {G t:aB} {o:aN} (h:G.length=n) (hi:i<n):(G++t).set i o=G.set i o++t:=by rw[kv5 _ _ (by omega)]
theorem dD {n:Nat} {G t:aB} (h:G.length=n):(G++t).length=n+t.length:=by rw[ke1,h]
def wid (n:Nat) (js:List Nat):List Nat:=kh4 n++js.map (n+·)
def wr (n:Nat) (js:List Nat) (i:Nat):Option Nat:=if i<n then some i else (idx js (i-n)).map (n+·)
theorem zB:∀(a b:List Nat) (i:Nat),idx (a++b) i=match idx a i with|some k=>some k|none=>(idx b i).map (a.length+·)
 |[],b,i=>by
  simp only[kh0,idx,kg0];cases idx b i with
  |none=>rfl
  |some k=>simp
 |x::a,b,i=>by
  simp only[kg6,idx,zB a b i];split
  ·rfl
  ·cases idx a i with
   |some k=>rfl
   |none=>cases idx b i with
    |none=>rfl
    |some k=>simp only[kh5,kw7,kf6];congr 1;omega
theorem z83 (n:Nat):∀(js:List Nat) (i:Nat),n≤i→idx (js.map (n+·)) i=idx js (i-n)
 |[],_,_=>rfl
 |j::r,i,h=>by
  simp only[ke5,idx,z83 n r i h];by_cases e:n+j=i
  ·rw[if_pos e,if_pos (by omega)]
  ·rw[if_neg e,if_neg (by omega)]
theorem oO (n:Nat) (js:List Nat):idx (wid n js)=wr n js:=by
 funext i;unfold wid wr;rw[zB,zg2];unfold lt;by_cases h:i<n
 ·rw[if_pos h,if_pos h]
 ·rw[if_neg h,if_neg h,z83 n js i (by omega),ko6]
theorem gI {n i:Nat} {js:List Nat} (h:i<n):wr n js i=some i:=if_pos h
theorem z84 {n:Nat} {js:List Nat}:wr n js n=(idx js 0).map (n+·):=by unfold wr;rw[if_neg (by omega),kr1]
theorem fD {n k:Nat} {js:List Nat}:wr n js (n+k)=(idx js k).map (n+·):=by unfold wr;rw[if_neg (by omega),kj9]
theorem zG3:∀(a b:List Nat),(∀x∈a,x∉b)→bK a=true→bK b=true→bK (a++b)=true
 |[],_,_,_,h=>h
 |x::a,b,hd,h1,h2=>by
  simp only[bK,kf8,kt3,kg6]at h1 ⊢;refine⟨?_,zG3 a b (fun y hy=>hd y (.tail _ hy)) h1.2 h2⟩;rw[kr7]at h1 ⊢;simp only[decide_eq_false_iff_not,kh1,not_or]at h1 ⊢;exact⟨h1.1,hd x (.head _)⟩
theorem zG4 (n:Nat):∀js:List Nat,bK js=true→bK (js.map (n+·))=true
 |[],_=>rfl
 |j::r,h=>by
  simp only[bK,kf8,kt3,ke5]at h ⊢;refine⟨?_,zG4 n r h.2⟩;rw[kr7]at h ⊢;simp only[decide_eq_false_iff_not,kn1,not_exists,not_and]at h ⊢;intro x hx e;have:x=j:=by omega
  exact h.1 (this▸hx)
theorem fQ {n:Nat} {js:List Nat} (h:bK js=true):bK (wid n js)=true:=
 zG3 _ _ (fun x hx hm=>by
  simp only[List.mem_range,kn1]at hx hm;obtain⟨j,_,e⟩:=hm;omega) (nI n) (zG4 n js h)
theorem jK {n:Nat} {js:List Nat}:(wid n js).take n=kh4 n:=by unfold wid;rw[List.take_append_of_le_length (by simp),ke0 (by simp)]
theorem j08 {n:Nat} {G G1 t t1:aB} {js:List Nat} (hG:G.length=n) (h1:G1.length=n) (hg:∀(i:Nat) (o:aN),G[i]?=some o→∃o':aN,bH (wr n js) o=some o'∧G1[i]?=some o') (ht:bB t (wr n js) js=some t1) :
  bB (G++t) (idx (wid n js)) (wid n js)=some (G1++t1):=by
 obtain⟨e1,e2⟩:=oX ht;rw[oO];refine zF8 _ _ (by simp[wid,h1,e1]) fun k id hk=>?_;unfold wid at hk;by_cases hkn:k<n
 ·rw[kf7 (by simpa using hkn)]at hk;simp only[List.getElem?_range,hkn]at hk;cases hk;have hx:G[k]?=some G[k]:=ke7 (by omega);obtain⟨o',a,b⟩:=hg k _ hx;exact⟨_,o',by rw[wgl hG hkn];exact hx,a,by rw[wgl h1 hkn];exact b⟩
 ·rw[kf4 (by simp;omega),ko6,ke6]at hk;obtain⟨j,hj,rfl⟩:=kj4.1 hk;obtain⟨o,o',a,b,c⟩:=e2 _ _ hj;refine⟨o,o',by rw[wgk hG];exact a,b,?_⟩;rw[kf4 (by omega),h1];exact c
def cn (c:Nat) (fr:List Int) (nx:Int) (bd:L) (ms:List Nat) (A N:List Int):Nat→Option aN:=fun i=>
 if i=c then some (.box [.d (.sl (nums fr)),.d (.int .i64 nx),bd])else
 match idx ms i with
 |some k=>some (.box [.d (.int .i64 (A.getD k 0)),.d (.int .i64 (N.getD k 0))])
 |none=>none
theorem vE {c:Nat} {fr:List Int} {nx:Int} {bd:L} {ms:List Nat} {A N:List Int}:cn c fr nx bd ms A N c=some (.box [.d (.sl (nums fr)),.d (.int .i64 nx),bd]):=if_pos rfl
theorem vF {c:Nat} {fr:List Int} {nx:Int} {bd:L} {ms:List Nat} {A N:List Int} {i k:Nat} (hc:i≠c) (hk:idx ms i=some k) :
  cn c fr nx bd ms A N i=some (.box [.d (.int .i64 (A.getD k 0)),.d (.int .i64 (N.getD k 0))]):=by unfold cn;rw[if_neg hc,hk]
theorem vG {c:Nat} {fr:List Int} {nx:Int} {bd:L} {ms:List Nat} {A N:List Int} {i:Nat} (hc:i≠c) (hk:i∉ms):cn c fr nx bd ms A N i=none:=by
 unfold cn;rw[if_neg hc];cases e:idx ms i with
 |none=>rfl
 |some k=>exact absurd (kd7 (kS e)) hk
theorem zG5 {c n:Nat} {fr:List Int} {nx:Int} {bd:L} {ms:List Nat} {A N:List Int} (hc:c<n) (hm:∀m∈ms,m<n) (i:Nat) (o:aN) (h:cn c fr nx bd ms A N i=some o):i<n:=by
 by_cases e:i=c
 ·omega
 ·by_cases hi:i∈ms
  ·exact hm i hi
  ·rw[vG e hi]at h;cases h
def bdL (b:Option Nat) (a k:Nat):L:=match b with|none=>.nils|some _=>.bsl a 0 k
def arO (b:Option Nat) (ms:List Nat):aN:=match b with|none=>.dead|some r=>.box (ms.map (fun m=>.ptr m 0)++kj5 r .any)
def mvs (b:Option Nat) (c len:Nat):List (Nat×Nat×Nat):=match b with|none=>[(len,0,0)]|some _=>[(c,2,0)]
theorem z85 {h:aB} {b:Option Nat} {ms:List Nat} {a c k:Nat} {x y:L} (ha:h[a]?=some (arO b ms)) (hc:h[c]?=some (.box [x,y,bdL b a k])) (hac:a≠c) :
  eP h (mvs b c h.length)=some ((h.set a .dead).set c (.box [x,y,bdL b h.length k])++[arO b ms]):=by
 cases b with
 |none=>
  simp only[mvs,eP,rM,km6 (kf2 _),arO,bdL]at *;have e1:h.set a .dead=h:=by
   apply km3;intro i;rw[km1];split
   ·rename_i e;subst e;rw[ha,if_pos (kd6.1 ha).1]
   ·rfl
  have e2:h.set c (.box [x,y,.nils])=h:=by
   apply km3;intro i;rw[km1];split
   ·rename_i e;subst e;rw[hc,if_pos (kd6.1 hc).1]
   ·rfl
  rw[e1,e2]
 |some r=>
  have hcl:=(kd6.1 hc).1;simp only[mvs,eP,rM,hc,bdL,kf9,kf5,ha,arO,ne_eq,hac,not_false_eq_true,if_true,List.set_cons_succ,km2]
  congr 1
  rw[kv5 _ _ (by simpa using hcl)]
structure Rg (H:aB) (c a:Nat) (ms:List Nat) (b:Option Nat) (A N:List Int):Prop where
 cl:Clo H.length H
 c_:c<H.length
 ms_:∀m∈ms,m<H.length
 nd:bK ms=true
 cm:c∉ms
 ha:H[a]?=some (arO b ms)
 ac:a≠c
 am:a∉ms
 b_:b=none→ms=[]
 lA:A.length=ms.length
 lN:N.length=ms.length
theorem Rg.a_ {H:aB} {c a:Nat} {ms:List Nat} {b:Option Nat} {A N:List Int} (h:Rg H c a ms b A N):a<H.length:=(kd6.1 h.ha).1
theorem Rg.out {H t:aB} {c a:Nat} {ms:List Nat} {b:Option Nat} {A N:List Int} (h:Rg H c a ms b A N) {fr:List Int} {nx:Int} {bd:L} {A' N':List Int}:st (H++t) (cn c fr nx bd ms A' N')=st H (cn c fr nx bd ms A' N')++t:=
 zG1 (zG5 h.c_ h.ms_)
theorem Rg.app {H t:aB} {c a:Nat} {ms:List Nat} {b:Option Nat} {A N:List Int} (h:Rg H c a ms b A N) (ht:Clo (H.length+t.length) t):Rg (H++t) c a ms b A N where
 cl:=by rw[ke1];exact(h.cl.mono (by omega)).app ht
 c_:=by have:=h.c_;simp;omega
 ms_ m hm:=by have:=h.ms_ m hm;simp;omega
 nd:=h.nd
 cm:=h.cm
 ha:=by rw[kf7 h.a_];exact h.ha
 ac:=h.ac
 am:=h.am
 b_:=h.b_
 lA:=h.lA
 lN:=h.lN
theorem Rg.withN {H:aB} {c a:Nat} {ms:List Nat} {b:Option Nat} {A N N':List Int} (h:Rg H c a ms b A N) (e:N'.length=N.length):Rg H c a ms b A N':={ h with lN:=e.trans h.lN }
theorem rC {H:aB} {n c a:Nat} {ms:List Nat} {b:Option Nat} {A N fr:List Int} {nx:Int} {k:Nat} (hc:Clo n H) (ha:a<n):Clo n (st H (cn c fr nx (bdL b a k) ms A N)):=by
 intro o ho;obtain⟨i,hi⟩:=kk9 ho;rw[iR]at hi;obtain⟨o1,h1,h2⟩:=kj4.1 hi;have hm1:=kd7 h1;by_cases e:i=c
 ·subst e;rw[vE]at h2;simp only[kp0]at h2;subst h2;cases b with
  |none=>rfl
  |some r=>simp only[bH,kg3,aJ,bdL,qY ha];rfl
 ·cases e1:idx ms i with
  |none=>
   have:cn c fr nx (bdL b a k) ms A N i=none:=by unfold cn;rw[if_neg e,e1]
   rw[this]at h2;simp only[kw3]at h2;subst h2;exact hc _ hm1
  |some j=>
   rw[vF e e1]at h2;simp only[kp0]at h2;subst h2;rfl
theorem fU {H t t1:aB} {n c:Nat} {js ms:List Nat} {A N fr:List Int} {nx:Int} {bd bd':L} (hn:H.length=n) (hc:Clo n H) (hbd:aJ (wr n js) bd=some bd') (ht:bB t (wr n js) js=some t1) :
  bB (st H (cn c fr nx bd ms A N)++t) (idx (wid n js)) (wid n js)=some (st H (cn c fr nx bd' ms A N)++t1):=by
 refine j08 ((cC _ _).trans hn) ((cC _ _).trans hn) (fun i o hi=>?_) ht;rw[iR]at hi ⊢;obtain⟨o1,h1,h2⟩:=kj4.1 hi;rw[h1];by_cases e:i=c
 ·subst e;rw[vE]at h2 ⊢;simp only[kp0]at h2;subst h2;exact⟨.box [.d (.sl (nums fr)),.d (.int .i64 nx),bd'],by simp only[bH,kg3,aJ,hbd];rfl,rfl⟩
 ·cases e1:idx ms i with
  |none=>
   have q:∀bd,cn c fr nx bd ms A N i=none:=fun bd=>by unfold cn;rw[if_neg e,e1]
   rw[q]at h2 ⊢;simp only[kw3]at h2;subst h2;exact⟨_,yX (fun j hj=>gI hj) (hc _ (kd7 h1)),rfl⟩
  |some j=>
   rw[vF e e1]at h2 ⊢;simp only[kp0]at h2;subst h2;exact⟨_,rfl,rfl⟩
theorem j09 {n:Nat} {h:aB} {r:V} (hc:Clo h.length h) (hn:n≤h.length) (hr:clV h.length r):fin n (kh4 h.length) h r=some (r,h):=by
 unfold fin;rw[if_pos ⟨nI _,by rw[List.take_range,Nat.min_eq_left hn]⟩,zg3 hc];have:bR h (kh4 h.length) r=some r:=by
  have hv:=(zg4 (h:=h) (n:=h.length) (vs:=[r]) (by simpa using hr)).1;cases r with
  |tup vs=>exact hr.elim
  |one l=>simp only[cL]at hv;simp only[bR];revert hv;cases bM h (kh4 h.length) (.one l)with|none=>simp|some x=>simp
  |agg l=>simp only[cL]at hv;simp only[bR];revert hv;cases bM h (kh4 h.length) (.agg l)with|none=>simp|some x=>simp
 rw[this]
theorem oP {H t t1:aB} {n c:Nat} {js ms:List Nat} {A N fr:List Int} {nx:Int} {bd bd':L} {r r':V} (hn:H.length=n) (hc:Clo n H) (hj:bK js=true) (hbd:aJ (wr n js) bd=some bd') (ht:bB t (wr n js) js=some t1)
  (hr:bR (st H (cn c fr nx bd ms A N)++t) (wid n js) r=some r'):fin n (wid n js) (st H (cn c fr nx bd ms A N)++t) r=some (r',st H (cn c fr nx bd' ms A N)++t1):=by
 unfold fin;rw[if_pos ⟨fQ hj,jK⟩,fU hn hc hbd ht,hr]
section
variable {H:aB} {c a:Nat} {ms:List Nat} {b:Option Nat} {A N0:List Int}
theorem Rg.gc (hR:Rg H c a ms b A N0) (fr:List Int) (nx:Int) (bd:L) (N:List Int) (t:aB):(st H (cn c fr nx bd ms A N)++t)[c]?=some (.box [.d (.sl (nums fr)),.d (.int .i64 nx),bd]):=by
 rw[wgl (cC _ _) hR.c_,iR,ke7 hR.c_,vE];rfl
theorem Rg.sc (hR:Rg H c a ms b A N0) (fr fr':List Int) (nx nx':Int) (bd bd':L) (N:List Int) (t:aB):(st H (cn c fr nx bd ms A N)++t).set c (.box [.d (.sl (nums fr')),.d (.int .i64 nx'),bd'])=st H (cn c fr' nx' bd' ms A N)++t:=by
 rw[wsl (cC _ _) hR.c_]
 congr 1
 refine zG2 vE fun i hi=>?_;unfold cn;rw[if_neg hi,if_neg hi]
theorem Rg.at_ (hR:Rg H c a ms b A N0) {i m:Nat} (hm:ms[i]?=some m):m≠c∧idx ms m=some i∧m<H.length:=
 ⟨fun e=>hR.cm (e▸kd7 hm),zP hR.nd hm,hR.ms_ m (kd7 hm)⟩
theorem Rg.gm (hR:Rg H c a ms b A N0) {i m:Nat} (hm:ms[i]?=some m) (fr:List Int) (nx:Int) (bd:L) (N:List Int) (t:aB):(st H (cn c fr nx bd ms A N)++t)[m]?=some (.box [.d (.int .i64 (A.getD i 0)),.d (.int .i64 (N.getD i 0))]):=by
 obtain⟨h1,h2,h3⟩:=hR.at_ hm;rw[wgl (cC _ _) h3,iR,ke7 h3,vF h1 h2];rfl
theorem Rg.sm (hR:Rg H c a ms b A N0) {i m:Nat} (hm:ms[i]?=some m) (fr:List Int) (nx:Int) (bd:L) {N:List Int} (hN:N.length=ms.length) (x:Int) (t:aB) :
  (st H (cn c fr nx bd ms A N)++t).set m (.box [.d (.int .i64 (A.getD i 0)),.d (.int .i64 x)])=st H (cn c fr nx bd ms A (N.set i x))++t:=by
 obtain⟨h1,h2,h3⟩:=hR.at_ hm;have hi:=(kd6.1 hm).1;rw[wsl (cC _ _) h3]
 congr 1
 refine zG2 ?_ fun j hj=>?_
 ·rw[vF h1 h2];simp[kj0,kl8 (show i<N.length by omega)]
 ·unfold cn;by_cases e:j=c
  ·rw[if_pos e,if_pos e]
  ·rw[if_neg e,if_neg e];cases e1:idx ms j with
   |none=>rfl
   |some k=>
    have:k≠i:=fun e2=>hj (Option.some.inj ((kS e1).symm.trans (e2▸hm)));simp[kj0,List.getElem?_set_ne (Ne.symm this)]
theorem Rg.ga (hR:Rg H c a ms b A N0) (fr:List Int) (nx:Int) (bd:L) (N:List Int) (t:aB):(st H (cn c fr nx bd ms A N)++t)[a]?=some (arO b ms):=by
 rw[wgl (cC _ _) hR.a_,iR,hR.ha,vG hR.ac hR.am];rfl
end
theorem pQ {n a k:Nat} {js:List Nat} {b:Option Nat} (h:a<n):aJ (wr n js) (bdL b a k)=some (bdL b a k):=by
 cases b with
 |none=>rfl
 |some r=>simp only[bdL,aJ,gI h];rfl
theorem zg6 {n k:Nat} {js:List Nat} (h:js.take k=kh4 k):(wid n js).take (n+k)=kh4 (n+k):=by
 unfold wid;rw[List.range_add,List.take_append,ko6,ke0 (by simp),kj9,←List.map_take,h]
theorem vH {h:aB} {n i k:Nat} {js:List Nat} (hi:i<n):bR h (wid n js) (.one (.ptr i k))=some (.one (.ptr i k)):=by
 simp only[bR,bM,bO,aJ,oO,gI hi,kh5]
theorem jR {h:aB} {n k:Nat} {js:List Nat}:bR h (wid n js) (.one (.ptr n k))=(idx js 0).map fun j=>.one (.ptr (n+j) k):=by
 simp only[bR,bM,bO,aJ,oO,z84];cases idx js 0<;>rfl
theorem cS {h:aB} {n i k:Nat} {js:List Nat}:bR h (wid n js) (.one (.ptr (n+i) k))=(idx js i).map fun j=>.one (.ptr (n+j) k):=by
 simp only[bR,bM,bO,aJ,oO,fD];cases idx js i<;>rfl
theorem z86 {H t:aB} {c a q k:Nat} {ms:List Nat} {b:Option Nat} {A N0 N fr:List Int} {nx:Int} (hR:Rg H c a ms b A N0) (hq:H.length=q) (ht:Clo (q+t.length) t):Clo (q+t.length) (st H (cn c fr nx (bdL b a k) ms A N)++t):=
 (rC (hR.cl.mono (by omega)) (by have:=hR.a_;omega)).app ht
theorem z87 {P:Program} {K:Kn (V×aB)} {f:FuncId} {avs:List V} {R:V} {H t:aB} {c a q k:Nat} {ms:List Nat} {b:Option Nat} {A N0 N N' fr:List Int} {nx nx':Int} (hR:Rg H c a ms b A N0) (hq:H.length=q) (ht:Clo (q+t.length) t) (hv:∀v∈avs,clV (q+t.length) v)
  (hc:VC P f avs (st (H++t) (cn c fr nx (bdL b a k) ms A N)) fun r h'=>r=R∧h'=st (H++t) (cn c fr nx' (bdL b a k) ms A N')) (hk:K.run (R,st H (cn c fr nx' (bdL b a k) ms A N')++t)) :
  @jN P f avs (st H (cn c fr nx (bdL b a k) ms A N)++t) K:=by
 have hlen:∀N nx,(st (H++t) (cn c fr nx (bdL b a k) ms A N)).length=q+t.length:=fun N nx=>by rw[cC,ke1,hq]
 refine pO hR.out.symm hc ?_ ?_ ?_
 ·rw[hlen,hR.out];exact z86 hR hq ht
 ·rw[hlen];exact hv
 ·rintro _ _ ⟨rfl,rfl⟩;refine⟨by rw[hlen,hlen];exact kf2 _,?_⟩;rw[hR.out];exact hk
theorem zG6 {h:aB} {n i j v len:Nat} {js:List Nat} (hj:idx js i=some j):bR h (wid n js) (.one (.own (n+i) v len))=some (.one (.own (n+j) v len)):=by
 simp only[bR,bM,bO,oO,fD,hj,kh5]
theorem j10 {h:aB} {n i v len:Nat} {js:List Nat} {ty:Option TypeId} {fz:Bool} {sz:Nat} {xs:List (List D)} (hj:idx js i=none) (hh:h[n+i]?=some (.ar ty fz sz v xs)):bO h (wid n js) (.own (n+i) v len)=some (.d (.sl (xs.take len))):=by
 simp only[bO,oO,fD,hj,kw7,hh,if_true]
open Go.Proofs Go.Vt.Al
theorem zg7 {b:Option Nat} {a k n:Nat} (ha:a<n):clL n (bdL b a k):=by
 cases b with
 |none=>rfl
 |some r=>simp only[clL,bdL,aJ,qY ha];rfl
theorem j11 {h:aB} (hc:Clo h.length h) {b:Option Nat} {a k:Nat} (ha:a<h.length):VC kd5 287 [.one (bdL b a k)] h fun r h'=>r = .one (.fn 307 [.ptr h.length 0])∧h'=h++[.box [bdL b a k]]:=by
 have hl:clL h.length (bdL b a k):=zg7 ha;have hc2:Clo (h++[aN.box [bdL b a k]]).length (h++[aN.box [bdL b a k]]):=by
  rw[ke1];refine(hc.mono (Nat.le_add_right _ _)).app fun o ho=>?_;simp only[ki8]at ho;subst ho;have h1:clL (h.length+1) (bdL b a k):=zg7 (by omega);unfold clL at h1;simp only[bH,kg3,kf6,kg0,kh8,h1];rfl
 refine aS aR jJ5 (by simp) ?_;show vwp kd5 h.length zA0 _ [(0,.one (bdL b a k))] h;conv in zA0=>cbv
 rw[aO];have hk:jD (V.one (bdL b a k))=true:=by cases b<;>rfl
 simp -implicitDefEqProofs only[oS.d,J2,↓reduceIte,hk];refine aI (kh4 (h++[aN.box [bdL b a k]]).length) rfl (j09 hc2 (by simp) ?_) ⟨rfl,rfl⟩;simp[clV,clL,aJ,kg3,lt,cM]
theorem z88 {ms:List Nat} {i m r:Nat} (h:ms[i]?=some m):(ms.map (fun m=>L.ptr m 0)++kj5 r L.any)[i]?=some (.ptr m 0):=by
 rw[kf7 (by have:=(kd6.1 h).1;simpa using this),ke6,h];rfl
theorem z89 {α:Type} {l:List α} {i:Nat} {x:α} (h:l[i]?=some x):l.drop i=x::l.drop (i+1):=by
 obtain⟨hl,e⟩:=kd6.1 h;rw[kl9 hl,e]
theorem j12 {Y:kE} {b:Option Nat} {a:Nat} {ms:List Nat} (hbig:ms.length<1000000000) {h:aB} {id:Nat} (hid:h[id]?=some (.box [bdL b a ms.length])) (haid:h[a]?=some (arO b ms)) (hb:b=none→ms=[])
  (hc:Clo h.length h) {K:VX→Sl→aB→Prop} {T0:Sl} (Pass:Nat→Prop)
  (hround:∀i m,ms[i]?=some m→(∀j,i<j→j<ms.length→Pass j)→∀K':Option VX→aB→Prop,(∀r,Pass i→K' none (h++r))→(∀h',K .ret T0 h'→K' (some .ret) h')→Y [.one (.d (.int .i64 i)),.one (.ptr m 0)] h K')
  (hend:(∀j,j<ms.length→Pass j)→K .normal T0 h) :
  dY kd5 h.length Y zA3 (wI K T0) [(0,.one .any),(1,.one (.ptr id 0))] [0] h none:=by
 have hh:=zg3 hc;have hn:id<h.length:=(kd6.1 hid).1;conv in zA3=>cbv
 rw[jP,lL];refine kJ rfl (r:=.one (bdL b a ms.length)) (h':=h) (by cases b<;>simp[vop,mL,opd,cI,hid,mkV,ki4,bdL]) ?_;refine kJ rfl (r:=.one (.d (.int .i64 ms.length))) (h':=h) (by
  cases b with
  |none=>have:=hb rfl;subst this;simp[vop,mL,opd,gR,bP,bdL]
  |some r=>simp only[arO]at haid;simp[vop,mL,opd,gR,haid,bP,bdL]) ?_
 refine kJ rfl (r:=.one (.d (.int .i64 ((ms.length:Int)-1)))) (h':=h) (qV (a:=ms.length) (b:=1) rfl rfl ?_) ?_
 ·simp only[fX,gZ,iH];rw[qT (by omega) (by omega)];simp
 refine kJ rfl (r:=.one (.d (.int .i64 ((ms.length:Int)-1)))) (h':=h) rfl ?_;rw[kK,fA,uP,zA9];refine⟨fun m T ys h1 pd=>m≤ms.length∧T=[(0,.one .any),(1,.one (.ptr id 0)),(3,.one (.d (.int .i64 ((m:Int)-1))))]∧(∃b,Yd b ys)∧h1=h∧pd=none∧∀j,m≤j→j<ms.length→Pass j,⟨ms.length,_,h,?_,kf2 _,rfl,⟨0,.base⟩,rfl,rfl,fun j h1 h2=>absurd h2 (by omega)⟩,?_⟩
 ·refine eT (kh4 h.length) h (kb5 _) (nI _) (by rw[ke0 (by simp)]) hh ⟨⟨_,kc0 _,rfl⟩,⟨_,kc0 _,?_⟩,⟨_,kc0 _,rfl⟩,trivial⟩;simp[bR,bM,bO,aJ,uN rfl hn]
 ·rintro m T ys h1 pd ⟨hm,rfl,⟨b1,hys⟩,rfl,rfl,hp⟩;rw[jP,jP,lL];refine fJ hys (qR hys (by decide) (by decide)) (by decide) (by decide) (r:=.one (.d (.int .i64 ((m:Int)-1)))) (h':=h1) rfl fun ys hys=>?_;refine fJ hys rfl (by decide) (by decide) (r:=.one (.d (.bool (decide (0≤(m:Int)-1))))) (h':=h1) (qV (a:=(m:Int)-1) (b:=0) rfl rfl rfl) fun ys hys=>?_;rw[kK,fA,qU];refine⟨fun e=>?_,fun e=>?_⟩
  ·rw[uO,fA,jP,uP,jP,lL];have e:0≤(m:Int)-1:=of_decide_eq_true e;obtain⟨i,rfl⟩:∃i,m=i+1:=⟨m-1,by omega⟩;have hi:i<ms.length:=by omega
   have hx:ms[i]?=some ms[i]:=ke7 hi;have hcast:((i+1:Nat):Int)-1=i:=by omega
   rw[hcast]at *;generalize ms[i]=x at hx;obtain⟨r,rfl⟩:∃r,b=some r:=by
    cases b with
    |none=>have:=hb rfl;subst this;cases hx
    |some r=>exact⟨r,rfl⟩
   simp only[bdL,arO]at hid haid;have hg:=z89 (z88 (r:=r) hx);have hil:(i:Int)<(ms.length:Int):=by omega
   refine zZ3 hys fun ys hys=>?_;refine fJ hys (qR hys (by decide) (by decide)) (by decide) (by decide) (r:=.one (.d (.int .i64 i))) (h':=h1) rfl fun ys hys=>?_;refine fJ hys rfl (by decide) (by decide) (r:=.one (.bsl a 0 ms.length)) (h':=h1) (by simp[vop,mL,opd,cI,hid,mkV,ki4]) fun ys hys=>?_;refine fJ hys (qR hys (by decide) (by decide)) (by decide) (by decide) (r:=.one (.d (.int .i64 i))) (h':=h1) rfl fun ys hys=>?_;refine fJ hys rfl (by decide) (by decide) (r:=.one (.ptr a i)) (h':=h1) (by simp[vop,mL,opd,jV,haid,ki4,hi]) fun ys hys=>?_;refine fJ hys rfl (by decide) (by decide) (r:=.one (.ptr x 0)) (h':=h1) (by simp[vop,zU0,opd,cI,mkV,ki4,haid,hg]) fun ys hys=>?_;refine zZ4 hys (by decide) (by decide) (vs:=[.one (.d (.int .i64 i)),.one (.ptr x 0)]) rfl (fun ys hys=>hround i x hx (fun j h1 h2=>hp j (by omega) h2) _ (fun r hpi=>?_) (fun h' hK=>?_))
   ·refine fJ hys rfl (by decide) (by decide) (r:=.one (.d (.bool false))) (h':=h1++r) rfl fun ys hys=>?_;rw[kK,fA,qU];refine⟨fun e=>(by cases e),fun _=>?_⟩;rw[uO,wG,fA,lL];refine fJ hys (qR hys (by decide) (by decide)) (by decide) (by decide) (r:=.one (.d (.int .i64 i))) (h':=h1++r) rfl fun ys hys=>?_;refine fJ hys rfl (by decide) (by decide) (r:=.one (.d (.int .i64 ((i:Int)-1)))) (h':=h1++r) (qV (a:=i) (b:=1) rfl rfl ?_) (fun ys hys=>?_)
    ·simp only[fX,gZ,iH];rw[qT (by omega) (by omega)];simp
    refine fJ hys rfl (by decide) (by decide) (r:=.one (.d (.int .i64 ((i:Int)-1)))) (h':=h1++r) rfl fun ys hys=>?_;rw[kK,fA];refine⟨i,_,h1,Nat.lt_succ_self i,?_,by omega,rfl,⟨_,hys⟩,rfl,rfl,fun j h1 h2=>?_⟩
    ·refine eT (kh4 h1.length) (h1++r) (kb5 _) (nI _) (by rw[ke0 (by simp)]) (zd3 hh) ⟨⟨_,kc0 _,rfl⟩,⟨_,kc0 _,?_⟩,⟨_,kc0 _,rfl⟩,trivial⟩;simp[bR,bM,bO,aJ,uN rfl hn]
    ·by_cases e:j=i
     ·subst e;exact hpi
     ·exact hp j (by omega) h2
   ·refine fJ hys rfl (by decide) (by decide) (r:=.one (.d (.bool true))) (h':=h') rfl fun ys hys=>?_;rw[kK,fA,qU];exact⟨fun _=>hK,fun e=>(by cases e)⟩
  ·have e:¬0≤(m:Int)-1:=of_decide_eq_false e;have:m=0:=by omega
   subst this;exact hend fun j hj=>hp j (kg1 _) hj
theorem j13:wH kd5 307 19 zA3:=⟨Tryz.f307,_,Tryz.func307,rfl,rfl,rfl,by kernel_rfl,by kernel_rfl,rfl⟩
theorem j14 {H:aB} {c a:Nat} {ms:List Nat} {b:Option Nat} {A fr:List Int} {w:WS} (hR:Rg H c a ms b A w.nums) (hA:ms.length<1000000000) (hfr:fr.length<1000000000) (h0:0≤w.next) (n:Int) (hb:(cG fr id A n w).2.next<1000000000000000) :
  VC kd5 258 [.one (.ptr c 0),.one (.d (.int .i64 n))] (st H (cn c fr w.next (bdL b a ms.length) ms A w.nums)) fun r h'=>r = .one (.d (.int .i64 (cG fr id A n w).1))∧h'=st H (cn c fr (cG fr id A n w).2.next (bdL b a ms.length) ms A (cG fr id A n w).2.nums):=by
 have gc:=hR.gc;have sc:=hR.sc;have ga:=hR.ga;have hl:∀ov,(st H ov).length=H.length:=cC H;obtain⟨q,hq⟩:∃q,q=H.length:=⟨_,rfl⟩;simp only[←hq]at hl;refine aS aR jJ0 (by simp) ?_;show vwp kd5 (st H (cn c fr w.next (bdL b a ms.length) ms A w.nums)).length zz5 _ [(0,.one (.ptr c 0)),(1,.one (.d (.int .i64 n)))] (st H (cn c fr w.next (bdL b a ms.length) ms A w.nums));conv in zz5=>cbv
 rw[aO];have hbk:jD (V.one (bdL b a ms.length))=true:=by cases b<;>rfl
 simp -implicitDefEqProofs only[oS.d,J1,J2,J5,J6,↓reduceIte,reduceCtorEq,hl,wg0 (hl _),dD (hl _),kf1,gc];have hcq:c<q:=hq▸hR.c_;have haq:a<q:=hq▸hR.a_;have hclo:∀(N:List Int) (x:Int) (t:aB),Clo (q+t.length) t→Clo (st H (cn c fr x (bdL b a ms.length) ms A N)++t).length (st H (cn c fr x (bdL b a ms.length) ms A N)++t):=fun N x t ht=>by
  rw[dD (hl _)];exact(rC (hR.cl.mono (by omega)) (by omega)).app ht
 have hback:=j11 (hclo w.nums w.next [.box [.ptr c 0],.box [.d (.int .i64 n)],.box [.d (.int .i64 0)]] (by simp only[fB,iQ,jJ,fP,eN,kh3,kh9,false_implies,implies_true,and_true,and_self,kf6,kg0,kh8,kg8]<;>omega)) (b:=b) (a:=a) (k:=ms.length) (by rw[dD (hl _)];omega);refine pO rfl hback (hclo _ _ _ (by simp only[fB,iQ,jJ,fP,eN,kh3,kh9,false_implies,implies_true,and_true,and_self,kf6,kg0,kh8,kg8]<;>omega)) (fun v hv=>by simp only[ki8]at hv;subst hv;rw[dD (hl _)];exact zg7 (by simp only[kf6];omega)) ?_;rintro _ _ ⟨rfl,rfl⟩;refine⟨by simp,?_⟩;simp -implicitDefEqProofs only[oS.d,J6,dD (hl _),kf1];show vwp _ _ _ _ _ _;refine⟨307,[.ptr (q+3) 0],19,_,rfl,by simp[dX,wgk (hl _)],j13,by simp,?_⟩;have hb_:=hR.b_;refine j12 (b:=b) (a:=a) (ms:=ms) hA (id:=q+3) (by rw[wgk (hl _)];rfl) (ga _ _ _ _ _) hb_ (hclo _ _ _ (by
  have:=zg7 (b:=b) (a:=a) (k:=ms.length) (n:=q+4) (by omega);simp only[fB,iQ,jJ,fP,eN,kh3,kh9,false_implies,implies_true,and_true,kf6,kg0,kh8,kg8,this];omega)) (fun j=>A[j]?≠some n) ?_ ?_
 ·intro i m hm hp K' hnx hr;refine⟨rfl,?_⟩;rw[aO];have gm:=hR.gm hm;have sm:=@Rg.sm _ _ _ _ _ _ _ hR i m hm;have hi:=(kd6.1 hm).1;obtain⟨x,hx⟩:=bA (l:=A) (i:=i) (by have:=hR.lA;omega);have hAx:A.getD i 0=x:=by simp[kj0,hx]
  obtain⟨y,hy⟩:∃y,w.nums.getD i 0=y:=⟨_,rfl⟩;rw[hAx]at gm sm;have sm1:=fun z v t=>sm fr z (bdL b a ms.length) (N:=w.nums) hR.lN v t;have hmq:m<q:=hq▸hR.ms_ m (kd7 hm);have hkeep:∀(z:Int) (T:Sl),ki4 2 T=some (.one (.ptr q 0))→ki4 6 T=some (.one (.ptr m 0))→ki4 4 T=some (.one (.ptr (q+2) 0))→gB (q+4) T (st H (cn c fr z (bdL b a ms.length) ms A w.nums)++[.box [.ptr c 0],.box [.d (.int .i64 n)],.box [.d (.int .i64 0)],.box [bdL b a ms.length]]) [(2,.one (.ptr q 0)),(6,.one (.ptr m 0)),(4,.one (.ptr (q+2) 0))] (st H (cn c fr z (bdL b a ms.length) ms A w.nums)++[.box [.ptr c 0],.box [.d (.int .i64 n)],.box [.d (.int .i64 0)],.box [bdL b a ms.length]]):=fun z T h2 h6 h4=>
   eT (wid q [0,1,2,3]) _ (kb5 _) (fQ rfl) (zg6 rfl) (fU hq.symm (hq▸hR.cl) (pQ haq) (by simp only[bB,kf5,kf9,bH,kg3,aJ,gI hcq,pQ haq,kh5]))
    ⟨(by rw[h2];exact⟨_,kc0 _,jR⟩),(by rw[h6];exact⟨_,kc0 _,vH hmq⟩),(by rw[h4];exact⟨_,kc0 _,cS⟩),trivial⟩
  by_cases he:x=n
  ·have hl1:cE A n=some i:=lO.2 ⟨he▸hx,fun j hj hc=>hp j hj (by have:=(kd6.1 hc).1;have:=hR.lA;omega) hc⟩;have e1:(x=n)=True:=by simp[he]
   simp -implicitDefEqProofs only[oS.d,J2,J6,lZ,dD (hl _)];rw[uQ,aO];by_cases hy0:y<0
   ·have e2:(y<0)=True:=by simp[hy0]
    simp -implicitDefEqProofs only[oS.d,J1,J2,J5,J6,↓reduceIte,reduceCtorEq,e1,e2,gm,hy,wgk (hl _),wsk (hl _),dD (hl _)];have hsk:=yC _ (kf2 fr.length) (tk:=fr) (k:=w.next);have hst:cG fr id A n w=(cW fr w.next,⟨w.nums.set i (cW fr w.next),cW fr w.next+1,w.free⟩):=by
     unfold cG;rw[hl1];simp only[hy,hy0,if_true]
    rw[hst]at hb;simp only at hb;refine bC (α:=Int) (fun _=>[(2,.one (.ptr q 0)),(6,.one (.ptr m 0)),(4,.one (.ptr (q+2) 0))])
     (fun x=>st H (cn c fr x (bdL b a ms.length) ms A w.nums)++[.box [.ptr c 0],.box [.d (.int .i64 n)],.box [.d (.int .i64 0)],.box [bdL b a ms.length]])
     (fun x=>w.next≤x∧cW fr x=cW fr w.next) (fun x=>(cW fr w.next-x).toNat) w.next (hkeep _ _ rfl rfl rfl) ⟨Int.le_refl _,rfl⟩ ?_
    rintro z ⟨hz1,hz2⟩;have hle:=(yC _ (kf2 fr.length) (tk:=fr) (k:=z)).1;have hh:=zf4 fr z hfr;by_cases hx:z∈fr
    ·rw[show decide (z∈fr)=true from by simp[hx]]at hh;have hs:=z00 hx;have hle2:=(yC _ (kf2 fr.length) (tk:=fr) (k:=z+1)).1;have hw:IntKind.i64.wrap (z+1)=z+1:=by rw[IntKind.wrap_i64];omega
     simp -implicitDefEqProofs only[oS.d,J1,J2,J5,J6,↓reduceIte,reduceCtorEq,gc,wg0 (hl _)];refine aQ [] hh rfl rfl rfl rfl ?_;simp -implicitDefEqProofs only[oS.d,J1,J2,J5,J6,↓reduceIte,reduceCtorEq,gc,sc,hw,wg0 (hl _)];refine⟨z+1,⟨by omega,by rw[←hs,hz2]⟩,by omega,?_⟩;exact hkeep _ _ rfl rfl rfl
    ·rw[show decide (z∈fr)=false from by simp[hx]]at hh;have hs:=uR hx;have hx3:cW fr w.next=z:=by rw[←hz2,hs]
     rw[hx3]at hb hst;have hw:IntKind.i64.wrap (z+1)=z+1:=by rw[IntKind.wrap_i64];omega
     have hgz:(w.nums.set i z).getD i 0=z:=by
      rw[kj0,kl8 (by have:=hR.lN;omega)];rfl
     simp -implicitDefEqProofs only[oS.d,J1,J2,J5,J6,↓reduceIte,reduceCtorEq,gc,wg0 (hl _)];refine aQ [] hh rfl rfl rfl rfl ?_;simp -implicitDefEqProofs only[oS.d,J1,J2,J5,J6,↓reduceIte,reduceCtorEq,gm,gc,sc,sm1,hw,hgz,wg0 (hl _),wgk (hl _),wsk (hl _)];refine hr _ ?_;simp -implicitDefEqProofs only[oS.d,hl];refine aI (wid q []) (vs:=[.one (.d (.int .i64 z))]) ?_ (oP hq.symm (hq▸hR.cl) rfl (pQ haq) rfl rfl) ?_
     ·simp[cX,cI,wgk (hl _),mkV,ki4,ti3]
     ·rw[hst,ki0];exact⟨rfl,rfl⟩
   ·have e2:(y<0)=False:=by simp;omega
    simp -implicitDefEqProofs only[oS.d,J1,J2,J5,J6,↓reduceIte,reduceCtorEq,e1,e2,gm,hy,wgk (hl _),wsk (hl _),dD (hl _)];refine hr _ ?_;simp -implicitDefEqProofs only[oS.d,hl];refine aI (wid q []) (vs:=[.one (.d (.int .i64 y))]) ?_ (oP hq.symm (hq▸hR.cl) rfl (pQ haq) rfl rfl) ?_
    ·simp[cX,cI,wgk (hl _),mkV,ki4,ti3]
    ·unfold cG;simp only[hl1,hy,hy0,if_false,ki0];exact⟨trivial,trivial⟩
  ·have e1:(x=n)=False:=by simp[he]
   simp -implicitDefEqProofs only[oS.d,J2,J6,lZ,dD (hl _)];rw[uQ,aO];simp -implicitDefEqProofs only[oS.d,J1,J2,J5,J6,↓reduceIte,reduceCtorEq,e1,gm,wgk (hl _),wsk (hl _),dD (hl _)];refine(ki0 (st _ _++_))▸hnx [] fun hc=>he (Option.some.inj (hx.symm.trans hc))
 ·intro hp;have hl1:cE A n=none:=kL.2 fun hm=>by
   obtain⟨j,hj⟩:=kk9 hm;exact hp j (by have:=(kd6.1 hj).1;have:=hR.lA;omega) hj
  simp -implicitDefEqProofs only[oS.d,J1,J2,↓reduceIte,hl,wgk (hl _),wsk (hl _),kf1];refine aI (wid q []) (vs:=[.one (.d (.int .i64 n))]) ?_ (oP hq.symm (hq▸hR.cl) rfl (pQ haq) rfl rfl) ?_
  ·simp[cX,cI,wgk (hl _),mkV,ki4,ti3]
  ·unfold cG;rw[hl1,ki0];exact⟨rfl,rfl⟩
theorem z90 {c a:Nat} {ms:List Nat} {b:Option Nat} {A fr:List Int} (hA:ms.length<1000000000) (hfr:fr.length<1000000000) :
  ∀(N:Nat) (t:Ty),tyn t≤N→N<100000000→∀(H:aB) (w:WS),Rg H c a ms b A w.nums→0≤w.next→(tyF fr id A t w).2.next<1000000000000000→
   VC kd5 222 [.one (.ptr c 0),tyV t] (st H (cn c fr w.next (bdL b a ms.length) ms A w.nums)) fun r h'=>r=tyV (tyF fr id A t w).1∧h'=st H (cn c fr (tyF fr id A t w).2.next (bdL b a ms.length) ms A (tyF fr id A t w).2.nums)
 |0,.mk k n l,h,_,_,_,_,_,_=>by simp only[tyn]at h;omega
 |N+1,.mk k n l,h,hN,H,w,hR,h0,hb=>by
  have ih:=z90 (c:=c) (a:=a) (ms:=ms) (b:=b) (A:=A) hA hfr N;simp only[tyn,oC]at h;have hlen:=dV (f:=tyn) (fun t=>by cases t;simp[tyn]) l;have hcl:=z56 l (by omega);have hl3:(kf0 l).length=l.length:=dA l;rw[hl3]at hcl;simp only[tyF,lP]at hb ⊢;have hl:∀ov,(st H ov).length=H.length:=cC H;obtain⟨q,hq⟩:∃q,q=H.length:=⟨_,rfl⟩;simp only[←hq]at hl;have gc:=hR.gc;have hcq:c<q:=hq▸hR.c_;have haq:a<q:=hq▸hR.a_;simp only[tyV,aG,ke5,ke8];refine aS aR jH8 (by simp) ?_;show vwp kd5 (st H (cn c fr w.next (bdL b a ms.length) ms A w.nums)).length zy5 _ [(0,.one (.ptr c 0)),(1,.agg [.d (.int .i64 k),.d (.int .i64 n),.d (.sl (kf0 l))])] (st H (cn c fr w.next (bdL b a ms.length) ms A w.nums));conv in zy5=>cbv
  rw[aO];have hbt:=zE3 (tk:=fr) (sb:=id) (A:=A) n w;have hL:=fun w=>zE4 (tk:=fr) (sb:=id) (A:=A) l w;rcases Classical.em (k=6)with hk|hk
  case' inl=>
   have hk1:(k=6)=True:=by simp[hk]
   have hk2:k=fK:=hk;simp only[if_pos hk2]at hb ⊢;have hst:=fun t ht=>j14 (H:=H++t) (hR.app ht) hA hfr h0 n (by have:=(hL (cG fr id A n w).2).2.1;omega);have hR1:Rg H c a ms b A (cG fr id A n w).2.nums:=hR.withN hbt.1;have h01:0≤(cG fr id A n w).2.next:=by have:=hbt.2.1;omega
   generalize cG fr id A n w=S at hst hb hR1 h01 ⊢;obtain⟨n1,w1⟩:=S;simp only at hst hb hR1 h01 ⊢;simp -implicitDefEqProofs only[oS.d,J1,J2,J5,J6,↓reduceIte,reduceCtorEq,hk1,hl,wg0 (hl _),dD (hl _),kf1];refine z87 hR hq.symm (by simp only[fB,iQ,jJ,fP,mR,kh3,kh9,false_implies,implies_true,and_self,kf6,kg0,kh8,kg8]<;>omega) (by simp only[fP,eN,pP,kh3,kh9,false_implies,implies_true,and_true,and_self,kf6,kg0,kh8,kg8]<;>omega) (hst _ (hq▸(by simp only[fB,iQ,jJ,fP,mR,kh3,kh9,false_implies,implies_true,and_self,kf6,kg0,kh8,kg8]<;>omega))) ?_;simp -implicitDefEqProofs only[oS.d,J1,J2,J5,J6,↓reduceIte,reduceCtorEq,wg0 (hl _),ws0 (hl _),kf1]
  case' inr=>
   have hk1:(k=6)=False:=by simp[hk]
   have hk2:¬k=fK:=hk;simp only[if_neg hk2]at hb ⊢;obtain⟨w1,rfl⟩:∃w1,w1=w:=⟨_,rfl⟩;obtain⟨n1,rfl⟩:∃n1,n1=n:=⟨_,rfl⟩;have hR1:=hR;have h01:=h0;simp -implicitDefEqProofs only[oS.d,J1,J2,J5,J6,↓reduceIte,reduceCtorEq,hk1,hl,wg0 (hl _),dD (hl _),kf1]
  all_goals
   refine bI [] hcl rfl rfl rfl ?_;rintro _ _ (⟨he,rfl,rfl⟩|⟨rfl,rfl⟩)
   ·have hl0:l=[]:=ki3.1 (by rw[←hl3,he];rfl);subst hl0;refine⟨_,_,rfl,?_⟩;simp -implicitDefEqProofs only[oS.d,J1,J2,J5,J6,↓reduceIte,reduceCtorEq,wg0 (hl _),ws0 (hl _),kf1];refine bC (α:=Unit) (fun _=>[(22,.one (.d (.int .i64 0))),(21,.one (.d (.int .i64 0))),(3,.one (.ptr q 0)),(4,.one (.ptr (q+1) 0))]) (fun _=>st H (cn c fr w1.next (bdL b a ms.length) ms A w1.nums)++[.box [.d (.int .i64 k),.d (.int .i64 n1),.nils],.box [.d (.int .i64 0),.d (.int .i64 0),.nils]]) (fun _=>True) (fun _=>0) ()
     (eT (wid q [0,1]) _ (kb5 _) (fQ rfl) jK (fU hq.symm (hq▸hR.cl) (pQ haq) (by simp only[bB,kf5,kf9,bH,kg3,aJ,kh5]))
      ⟨⟨_,kc0 _,rfl⟩,⟨_,kc0 _,rfl⟩,⟨_,kc0 _,jR⟩,⟨_,kc0 _,cS⟩,trivial⟩) trivial ?_
    intro _ _;have h00:((0:Int)<0)=False:=by simp
    simp -implicitDefEqProofs only[oS.d,J1,J2,J6,↓reduceIte,h00,hl,wg0 (hl _),wgk (hl _),wsk (hl _),kf1];refine zQ2 [] (wid q []) (vs:=[.agg [.d (.int .i64 k),.d (.int .i64 n1),.nils]]) (r1:=.agg [.d (.int .i64 k),.d (.int .i64 n1),.d (.sl [])]) ?_ rfl ⟨.inl rfl,.inl rfl,.inr (.inl ⟨rfl,rfl⟩),trivial⟩ (kb5 _) (oP hq.symm (hq▸hR.cl) rfl (pQ haq) rfl rfl) ?_
    ·simp[cX,cI,wgk (hl _),mkV,ki4,lH]
    ·rw[ki0];first
     |simp only[if_pos hk2];first|exact⟨rfl,rfl⟩|exact⟨trivial,trivial⟩
     |simp only[if_neg hk2];first|exact⟨rfl,rfl⟩|exact⟨trivial,trivial⟩
   ·refine⟨_,_,rfl,?_⟩;simp -implicitDefEqProofs only[oS.d,J1,J2,J5,J6,J8,↓reduceIte,reduceCtorEq,wg0 (hl _),wgk (hl _),ws0 (hl _),wsk (hl _),dD (hl _),kf1];have hLb:=hL w1;have hwb:=fun i=>uX (f:=tyF fr id A) (c:=tyn) (l:=l) (fun t _ w=>mO t w) i w1;have hwl:=fun i=>mN (f:=tyF fr id A) (l.take i) w1;obtain⟨W,hW⟩:∃W,W=fun i=>(aH (tyF fr id A) (l.take i) w1).2:=⟨_,rfl⟩;obtain⟨X,hX⟩:∃X,X=fun i=>kf0 ((aH (tyF fr id A) (l.take i) w1).1++l.drop i):=⟨_,rfl⟩;have hkeep:∀(i:Nat) (T:Sl) (x:aB),ki4 22 T=some (.one (.d (.int .i64 i)))→ki4 21 T=some (.one (.d (.int .i64 l.length)))→ki4 20 T=some (.one (.own (q+2) 1 l.length))→ki4 0 T=some (.one (.ptr c 0))→ki4 3 T=some (.one (.ptr q 0))→ki4 4 T=some (.one (.ptr (q+1) 0))→
      gB q T (st H (cn c fr (W i).next (bdL b a ms.length) ms A (W i).nums)++.box [.d (.int .i64 k),.d (.int .i64 n1),.own (q+2) 1 l.length]::.box [.d (.int .i64 0),.d (.int .i64 0),.nils]::.arr false 3 1 (X i)::x)
       [(22,.one (.d (.int .i64 i))),(21,.one (.d (.int .i64 l.length))),(20,.one (.own (q+2) 1 l.length)),(0,.one (.ptr c 0)),(3,.one (.ptr q 0)),(4,.one (.ptr (q+1) 0))]
       (st H (cn c fr (W i).next (bdL b a ms.length) ms A (W i).nums)++[.box [.d (.int .i64 k),.d (.int .i64 n1),.own (q+2) 1 l.length],.box [.d (.int .i64 0),.d (.int .i64 0),.nils],.arr false 3 1 (X i)]):=fun i T x h1 h2 h3 h4 h5 h6=>
     eT (wid q [0,1,2]) _ (kb5 _) (fQ rfl) jK (fU hq.symm (hq▸hR.cl) (pQ haq) (by simp only[bB,kf5,kf9,bH,kg3,aJ,kh5,fD];rfl))
      ⟨by rw[h1];exact⟨_,kc0 _,rfl⟩,by rw[h2];exact⟨_,kc0 _,rfl⟩,by rw[h3];exact⟨_,kc0 _,zG6 rfl⟩,by rw[h4];exact⟨_,kc0 _,vH hcq⟩,by rw[h5];exact⟨_,kc0 _,jR⟩,by rw[h6];exact⟨_,kc0 _,cS⟩,trivial⟩
    refine bC (α:=Nat) (fun i=>[(22,.one (.d (.int .i64 i))),(21,.one (.d (.int .i64 l.length))),(20,.one (.own (q+2) 1 l.length)),(0,.one (.ptr c 0)),(3,.one (.ptr q 0)),(4,.one (.ptr (q+1) 0))])
     (fun i=>st H (cn c fr (W i).next (bdL b a ms.length) ms A (W i).nums)++[.box [.d (.int .i64 k),.d (.int .i64 n1),.own (q+2) 1 l.length],.box [.d (.int .i64 0),.d (.int .i64 0),.nils],.arr false 3 1 (X i)])
     (fun i=>i≤l.length) (fun i=>l.length-i) 0 ?_ (kg1 _) ?_
    ·have e0:W 0=w1:=by rw[hW];rfl
     have e1:X 0=kf0 l:=by rw[hX];rfl
     have:=hkeep 0;rw[e0,e1]at this;simp only[e0,e1];refine this _ [] ?_ ?_ ?_ ?_ ?_ ?_<;>rfl
    ·intro i hi;have hw:=bJ (a:=i) rfl (by omega);have hXl:(X i).length=l.length:=by rw[hX];simp only[dA,ke1,hwl,kg2,List.length_drop];omega
     rcases Nat.lt_or_ge i l.length with h5|h5
     ·have hc:((i:Int)<(l.length:Int))=True:=by simp;omega
      obtain⟨u,hu⟩:=bA h5;have hg:(X i)[i]?=some (aG u):=by
       rw[hX];simp only[dN,ko0];rw[kf4 (by simp only[ke9,hwl,kg2];omega)];simp only[ke9,hwl,kg2,ke6,List.getElem?_drop];rw[show i+(i-min i l.length)=i by omega,hu];rfl
      have hmt:=lQ (f:=tyF fr id A) hu w1;have l1:(i:Int)<(l.length:Int):=by omega
      have e1:(tyF fr id A u (W i)).2=W (i+1):=by rw[hW];simp only[hmt]
      have e2:(X i).set i (aG (tyF fr id A u (W i)).1)=X (i+1):=by
       rw[hX,hW];simp only[hmt,dN,ko0];rw[kk5 _ _ (by simp only[ke9,hwl,kg2];omega)];simp only[ke9,hwl,kg2,kl9 h5,ke5,ke8,show i-min i l.length=0 by omega,km2,kf1,kg6,kh0]
      have iu:=fun t ht hwn=>ih u (by have:=cY (f:=tyn) (kd7 hu);omega) (by omega) (H++t) (W i) ((hR1.app ht).withN hwn);have hR2:=hwb i;have hR3:=hwb (i+1);have hWi:∀i,W i=(aH (tyF fr id A) (l.take i) w1).2:=fun i=>by rw[hW]
      rw[←hWi]at hR2 hR3;have iu1:=fun t ht=>iu t ht hR2.1.1 (by have:=hR2.1.2.1;omega) (by rw[e1];have:=hR3.2;omega);rw[e1]at iu1;generalize tyF fr id A u (W i)=R at iu1 e2;obtain⟨⟨rk,rn,rl⟩,w2⟩:=R;obtain⟨uk,un,ul⟩:=u;simp only[tyV,aG,ke5,ke8]at iu1 hg e2;simp -implicitDefEqProofs only[oS.d,J1,J2,J5,J6,↓reduceIte,reduceCtorEq,hc,hg,kd8,kd9,hl,wg0 (hl _),wgk (hl _),wsk (hl _),dD (hl _),kf1];refine z87 hR hq.symm (by simp only[fB,iQ,jJ,qZ,fP,mR,rA,kh3,kh9,false_implies,implies_true,and_true,true_and,and_self,kf6,kg0,kh8,kg8]<;>omega) (by simp only[fP,eN,pP,vD,kh3,kh9,false_implies,implies_true,and_true,and_self,kf6,kg0,kh8,kg8]<;>omega) (iu1 _ (hq▸(by simp only[fB,iQ,jJ,qZ,fP,mR,rA,kh3,kh9,false_implies,implies_true,and_true,true_and,and_self,kf6,kg0,kh8,kg8]<;>omega))) ?_;simp -implicitDefEqProofs only[oS.d,J1,J2,J5,J6,↓reduceIte,reduceCtorEq,hc,hg,e2,hw,kd8,kd9,wg0 (hl _),wgk (hl _),wsk (hl _),kf1];refine⟨i+1,by omega,by omega,?_⟩;refine hkeep (i+1) _ [_] ?_ ?_ ?_ ?_ ?_ ?_<;>rfl
     ·have hc:((i:Int)<(l.length:Int))=False:=by simp;omega
      have hie:i=l.length:=by omega
      subst hie;simp -implicitDefEqProofs only[oS.d,J1,J2,J6,↓reduceIte,hc,hl,wg0 (hl _),wgk (hl _),wsk (hl _),kf1];refine aI (wid q []) (vs:=[.agg [.d (.int .i64 k),.d (.int .i64 n1),.own (q+2) 1 l.length]]) ?_ (oP hq.symm (hq▸hR.cl) rfl (pQ haq) rfl (r':=.agg [.d (.int .i64 k),.d (.int .i64 n1),.d (.sl ((X l.length).take l.length))]) ?_) ?_
      ·simp[cX,cI,wgk (hl _),mkV,ki4,lH]
      ·simp[cM,bR,bM,dG,bO,aJ,oO,fD,idx,wgk (hl _)]
      ·rw[ki0,ke0 (by omega),hX,hW];simp only[List.take_length,List.drop_length,ki0];first
       |simp only[if_pos hk2];first|exact⟨rfl,rfl⟩|exact⟨trivial,trivial⟩
       |simp only[if_neg hk2];first|exact⟨rfl,rfl⟩|exact⟨trivial,trivial⟩
end Go.Vt.Tryz
