import Derived.Test.YtdabfkmhkoppcaaGreatDoorVtWh
import Derived.Test.YtdabfkmhkoppcaaGreatDoorVtA1
import Derived.Test.YtdabfkmhkoppcaaGreatDoorVtComp
import Derived.Shelf.Slices.In.SortNone
import Derived.Test.YtdabfkmhkoppcaaGreatDoorVtKn
set_option linter.all false
set_option maxHeartbeats 2000000
set_option maxRecDepth 100000
open Array renaming getElem?_modify→kz1,getElem_mapIdx→kH6
open Int renaming natCast_nonneg→kq2,toNat_natCast→kq4
open List renaming append_assoc→kr3,append_nil→ku3,cons_append→kr0,eq_of_mem_replicate→kA9,ext_getElem?→ky8,getD_eq_getElem?_getD→ku6,getElem?_append_left→kr9,getElem?_append_right→kr5,getElem?_cons_succ→ks4,getElem?_cons_zero→kr6,getElem?_drop→kv4,getElem?_eq_getElem→kr1,getElem?_eq_none→kz0,getElem?_eq_some_iff→kp9,getElem?_map→ks1,getElem?_of_mem→kw9,getElem?_set→ky5,length_append→kq3,length_cons→kr4,length_drop→kx9,length_filter_le→kH7,length_mergeSort→kH5,length_nil→kr7,length_set→ku4,length_take→kt3,lookup→kt8,map_append→kF5,map_nil→kq5,mem_append→kt5,mem_filter→kG9,mem_map→ky3,mem_of_getElem?→kq0,mem_or_eq_of_mem_set→kv8,mem_range→kx6,mem_reverse→ky6,nil_append→kr2,range→kt4,replicate_succ'→kI3,replicate→kw8,take_add_one→kw0,take_append_of_le_length→ky0,take_of_length_le→kq6
open Nat renaming add_assoc→kD5,le_refl→ks0,le_trans→kD2,lt_or_ge→ks3,sub_self→kD4,zero_add→kt2,zero_le→kt1
open Option renaming map_eq_some_iff→kv7,map_some→kt9,toList_some→kz8
open Go.Proofs.Tryz renaming prog→kp8
open Go.Vt.aG renaming renLs→ks9
open Go.Vt renaming dL→J0,mkV→J1
open Nat renaming reduceBEq→J2,reduceEqDiff→J3,reduceLT→J4,reduceLeDiff→J5,reduceAdd→J6,reduceMul→J7,reduceSub→J8
namespace Go.Vt.Tryz
open Go.Proofs
theorem zL6 {n m:Nat} {js:List Nat} (h:m≤n):(wid n js).take m=kt4 m:=by
 unfold wid;rw[ky0 (by simpa using h),List.take_range,Nat.min_eq_left h]
theorem g_c {H t:aB} {c:Nat} {fr:List Int} {nx:Int} {bd:L} {ms:List Nat} {A N:List Int} (hc:c<H.length):(st H (cn c fr nx bd ms A N)++t)[c]?=some (.box [.d (.sl (nums fr)),.d (.int .i64 nx),bd]):=by
 rw[wgl (cD _ _) hc,jI,kr1 hc,wM];rfl
theorem s_c {H t:aB} {c:Nat} {fr fr':List Int} {nx nx':Int} {bd bd':L} {ms:List Nat} {A N:List Int} (hc:c<H.length):(st H (cn c fr nx bd ms A N)++t).set c (.box [.d (.sl (nums fr')),.d (.int .i64 nx'),bd'])=st H (cn c fr' nx' bd' ms A N)++t:=by
 rw[wsl (cD _ _) hc]
 congr 1
 refine zL1 wM fun i hi=>?_;unfold cn;rw[if_neg hi,if_neg hi]
theorem j62 {H:aB} {o:aI} {c:Nat} {fr:List Int} {nx x y:Int} {bd:L} {ms:List Nat} {A N:List Int} (hc:c<H.length) (hm:∀m∈ms,m<H.length) (lA:A.length=ms.length) (lN:N.length=ms.length) :
  st (H++[o]) (cn c fr nx bd (ms++[H.length]) (A++[x]) (N++[y]))=st H (cn c fr nx bd ms A N)++[.box [.d (.int .i64 x),.d (.int .i64 y)]]:=by
 apply ky8;intro i;have hni:Vt.idx ms H.length=none:=by
  cases e:Vt.idx ms H.length with
  |none=>rfl
  |some k=>have:=hm _ (kq0 (lL e));omega
 rw[jI];rcases Nat.lt_trichotomy i H.length with h|h|h
 ·rw[kr9 h,wgl (cD _ _) h,jI]
  congr 1
  funext z;unfold cn;by_cases e:i=c
  ·rw[if_pos e,if_pos e]
  ·rw[if_neg e,if_neg e,za2];cases e1:Vt.idx ms i with
   |some k=>
    have hk:k<ms.length:=(kp9.1 (lL e1)).1;simp only[ku6];rw[kr9 (by omega),kr9 (by omega)]
   |none=>
    have:Vt.idx [H.length] i=none:=by simp only[Vt.idx];rw[if_neg (by omega)];rfl
    rw[this];rfl
 ·subst h;rw[wg0 (cD _ _),kr5 (ks0 _),kD4];have:cn c fr nx bd (ms++[H.length]) (A++[x]) (N++[y]) H.length=some (.box [.d (.int .i64 x),.d (.int .i64 y)]):=by
   rw[wN (k:=ms.length) (by omega)]
   ·simp only[ku6];rw[kr5 (by omega),kr5 (by omega),lA,lN,kD4];rfl
   ·rw[za2,hni];simp[Vt.idx]
  simp[this]
 ·rw[kz0 (by simp;omega),kz0 (by rw[kq3,cD];simp;omega)];rfl
theorem j63 {h:aB} {a:Nat} (ha:h[a]?=some .dead):h.set a .dead=h:=by
 apply ky8;intro i;rw[ky5];split
 ·rename_i e;subst e;rw[ha,if_pos (kp9.1 ha).1]
 ·rfl
theorem j64 {h:aB} {e:EI} {a:Nat} {ms:List Nat} {b:Option Nat} {y:L} (ha:h[a]?=some (arO b ms)) (hb:b=none→ms=[]) (he:e.size=1) (hz:zok e=true) (h1:(ms.length+1)*e.bytes≤aV) (h2:ms.length+1≤aV) :
  pM h e (bdL b a ms.length) [y]=some (.bsl h.length 0 (ms.length+1),h.set a .dead++[.box (ms.map (fun m=>L.ptr m 0)++[y])]):=by
 cases b with
 |none=>
  have:=hb rfl;subst this;simp only[arO]at ha;rw[j63 ha];simp only[bdL,pM,he,hz,ne_eq,List.cons_ne_self,not_false_eq_true,and_self,if_true,kr4,kr7,kq5,kr2]at h1 h2 ⊢;rw[if_pos ⟨h1,h2⟩]
 |some r=>
  simp only[arO]at ha;simp only[bdL,pM,he,hz,ne_eq,reduceCtorEq,not_false_eq_true,and_self,if_true,ha,kr4,kr7,kt2];rw[if_pos ⟨by simp,h1,h2⟩,ky0 (by simp),kq6 (by simp)]
theorem j65 {h:aB} {a:Nat} {ms:List Nat} {b:Option Nat} (ha:h[a]?=some (arO b ms)) (hb:b=none→ms=[]):iO h .slice (.one (bdL b a ms.length))=some ms.length:=by
 cases b with
 |none=>have:=hb rfl;subst this;rfl
 |some r=>simp only[arO]at ha;simp[bdL,iO,ha]
theorem zL7 {n:Nat} {b:Option Nat} {ms:List Nat} (h:∀m∈ms,m<n):bD (lt n) (arO b ms)=some (arO b ms):=by
 cases b with
 |none=>rfl
 |some r=>
  refine eM.2 fun x hx=>?_;rcases kt5.1 hx with hx|hx
  ·obtain⟨m,hm,rfl⟩:=ky3.1 hx;exact eA.2 (h m hm)
  ·rw[kA9 hx];rfl
theorem sL {n:Nat} {js:List Nat} {b:Option Nat} {ms:List Nat} (h:∀m∈ms,m<n):bD (wr n js) (arO b ms)=some (arO b ms):=zZ (fun _ hi=>gP hi) (zL7 h)
theorem gT {n j j' k:Nat} {js:List Nat} {b:Option Nat} (h:idx js j=some j'):aG (wr n js) (bdL b (n+j) k)=some (bdL b (n+j') k):=by
 cases b with
 |none=>rfl
 |some r=>simp only[bdL,aG,fD,h];rfl
theorem je1 {h:aB} {n:Nat} {js:List Nat} {l:L} (hl:clL n l) (hne:∀id v len,l≠.own id v len):cF h (wid n js) (.one l)=some (.one l):=by
 have:bT h (wid n js) l=aG (idx (wid n js)) l:=by cases l<;>first|rfl|exact absurd rfl (hne _ _ _)
 simp only[cF,bP,this,pC,zX (fun _ hi=>gP hi) l hl,kt9]
theorem je2 {H t:aB} {c a q:Nat} {fr:List Int} {nx:Int} {b:Option Nat} {ms:List Nat} {A N N0:List Int} (hR:Rg H c a ms b A N0) (hq:H.length=q) :
  eP (st H (cn c fr nx (bdL b a ms.length) ms A N)++t) (mvs b c (q+t.length))=some (st (H.set a .dead) (cn c fr nx (bdL b (q+t.length) ms.length) ms A N)++(t++[arO b ms])):=by
 have h:=jd5 (hR.ga fr nx (bdL b a ms.length) N t) (hR.gc fr nx (bdL b a ms.length) N t) hR.ac;rw[bY ((cD _ _).trans hq)]at h;rw[h,wsl (cD _ _) hR.a_,jd2 (wO hR.ac hR.am),s_c (by rw[ku4];exact hR.c_),kr3]
theorem je3 {m:Nat→Option Nat}:∀{a b a' b':List L},ks9 m a=some a'→ks9 m b=some b'→ks9 m (a++b)=some (a'++b')
 |[],b,a',b',h,g=>by cases h;exact g
 |x::r,b,a',b',h,g=>by
  simp only[ks9]at h;cases e1:aG m x with
  |none=>rw[e1]at h;cases h
  |some y=>cases e2:ks9 m r with
   |none=>rw[e1,e2]at h;cases h
   |some ys=>
    rw[e1,e2]at h;cases h;simp only[kr0,ks9,e1,je3 e2 g]
theorem j66 {n k j:Nat} {js ms:List Nat} (h:∀m∈ms,m<n) (hj:idx js k=some j):bD (wr n js) (.box (ms.map (fun m=>L.ptr m 0)++[.ptr (n+k) 0]))=some (.box (ms.map (fun m=>L.ptr m 0)++[.ptr (n+j) 0])):=by
 have h1:ks9 (wr n js) (ms.map fun m=>L.ptr m 0)=some (ms.map fun m=>L.ptr m 0):=zY (fun _ hi=>gP hi) _ (zj6.2 fun x hx=>by
  obtain⟨m,hm,rfl⟩:=ky3.1 hx;exact eA.2 (h m hm))
 have h2:ks9 (wr n js) [L.ptr (n+k) 0]=some [L.ptr (n+j) 0]:=by simp only[ks9,aG,fD,hj];rfl
 simp only[bD,je3 h1 h2];rfl
def slB (b:Option Nat) (p k n:Nat):L:=match b with
 |none=>.nils
 |some _=>if n=0∧k≠0 then .d (.sl [])else .bsl p k n
theorem j67 {h:aB} {e:EI} {b:Option Nat} {p k n m:Nat} {ms:List Nat} (ha:h[p]?=some (arO b ms)) (hb:b=none→ms=[]) (hm:m=ms.length) (hk:m=k+n) (he:e.size=1) :
  dL h .slice (some e) (.one (bdL b p m)) (some (.one (.d (.int .i64 k)))) none=some (.one (slB b p k n)):=by
 have hv:∀d,fF d (some (.one (.d (.int .i64 (k:Int)))))=some k:=fun d=>by simp[fF]
 cases b with
 |none=>
  have:=hb rfl;subst this;have h0:k=0:=by simp at hm;omega
  subst h0;simp only[bdL,dL,hv,slB];simp[fF]
 |some r=>
  simp only[arO]at ha;simp only[bdL,dL,hv,ha,slB];simp only[fF];rw[if_pos ⟨he,by omega,ks0 _⟩];by_cases hn:n=0
  ·by_cases h0:k=0
   ·subst hn;subst h0;subst hk;simp
   ·subst hn;simp[hk,h0]
  ·rw[if_neg (by omega),if_neg (by omega)];simp[hk]
theorem j68 {h:aB} {e:EI} {b:Option Nat} {p k m:Nat} {ms:List Nat} (ha:h[p]?=some (arO b ms)) (hb:b=none→ms=[]) (hm:m=ms.length) (hk:k≤m) (he:e.size=1) :
  dL h .slice (some e) (.one (bdL b p m)) none (some (.one (.d (.int .i64 k))))=some (.one (bdL b p k)):=by
 have hv:∀d,fF d (some (.one (.d (.int .i64 (k:Int)))))=some k:=fun d=>by simp[fF]
 cases b with
 |none=>
  have:=hb rfl;subst this;have h0:k=0:=by simp at hm;omega
  subst h0;simp only[bdL,dL,hv];simp[fF]
 |some r=>
  simp only[arO]at ha;simp only[bdL,dL,hv,ha];simp only[fF];rw[if_pos ⟨he,kt1 _,hk⟩];simp
theorem j69 {h:aB} {b:Option Nat} {p k n:Nat} {ms:List Nat} (ha:h[p]?=some (arO b ms)) (hb:b=none→ms=[]) (hk:ms.length=k+n):iO h .slice (.one (slB b p k n))=some n:=by
 cases b with
 |none=>
  have:=hb rfl;subst this;have h0:n=0:=by simp at hk;omega
  subst h0;rfl
 |some r=>
  simp only[arO]at ha;simp only[slB];split
  ·rename_i hc;rw[hc.1];rfl
  ·simp[iO,ha]
theorem j70 {h:aB} {b:Option Nat} {p k n j:Nat} {ms:List Nat} (ha:h[p]?=some (arO b ms)) (hb:b=none→ms=[]) (hk:ms.length=k+n) (hj:j<n):kR h 1 j (slB b p k n)=some (.ptr p (k+j)):=by
 cases b with
 |none=>have:=hb rfl;subst this;simp at hk;omega
 |some r=>
  simp only[arO]at ha;simp only[slB];rw[if_neg (by omega)];simp[kR,ha,hj]
theorem g_m {H t:aB} {c m i:Nat} {fr:List Int} {nx:Int} {bd:L} {ms:List Nat} {A N:List Int} (hc:m≠c) (hi:Vt.idx ms m=some i) (hm:m<H.length):(st H (cn c fr nx bd ms A N)++t)[m]?=some (.box [.d (.int .i64 (A.getD i 0)),.d (.int .i64 (N.getD i 0))]):=by
 rw[wgl (cD _ _) hm,jI,kr1 hm,wN hc hi];rfl
theorem je4 {h:aB} {n k m:Nat} {js:List Nat} {b:Option Nat} (hj:Vt.idx js 0=some 0):cF h (wid n js) (.one (slB b n k m))=some (.one (slB b n k m)):=by
 unfold slB;cases b with
 |none=>rfl
 |some r=>
  simp only;split
  ·rfl
  ·simp[cF,bP,bT,aG,pC,jd4,hj]
theorem j71 {H0 r:aB} {c:Nat} {fr:List Int} {nx:Int} {bd:L} {ms ns:List Nat} {A N:List Int} (hn:∀m∈ns,H0.length≤m) :
  ∃rest:aB,rest.length=r.length∧st (H0++r) (cn c fr nx bd (ms++ns) A N)=st H0 (cn c fr nx bd ms (A.take ms.length) (N.take ms.length))++rest:=by
 refine⟨(st (H0++r) (cn c fr nx bd (ms++ns) A N)).drop H0.length,by rw[kx9,cD,kq3];omega,?_⟩;conv=>lhs;rw[←List.take_append_drop H0.length (st (H0++r) (cn c fr nx bd (ms++ns) A N))]
 congr 1
 apply ky8;intro i;rw[List.getElem?_take,jI,jI];by_cases hi:i<H0.length
 ·rw[if_pos hi,kr9 hi]
  congr 1
  funext z;unfold cn;by_cases e:i=c
  ·rw[if_pos e,if_pos e]
  ·rw[if_neg e,if_neg e,za2];cases e1:Vt.idx ms i with
   |some k=>
    have hk:k<ms.length:=(kp9.1 (lL e1)).1;simp only[ku6,List.getElem?_take_of_lt hk]
   |none=>
    cases e2:Vt.idx ns i with
    |none=>rfl
    |some k=>
     have:=hn i (kq0 (lL e2));omega
 ·rw[if_neg hi,kz0 (by omega)];rfl
theorem j72 {b:Option Nat} {ms ns:List Nat} (hb:b=none→ms++ns=[]):∃b',(b'=none→ms=[])∧(∀p k,bdL b p k=bdL b' p k)∧WkO (arO b (ms++ns)) (arO b' ms):=by
 cases b with
 |none=>exact⟨none,fun _=>(List.append_eq_nil_iff.1 (hb rfl)).1,fun _ _=>rfl,by simp only[arO];rfl⟩
 |some r=>
  refine⟨some (ns.length+r),fun e=>(by cases e),fun _ _=>rfl,?_⟩;simp only[arO];refine⟨.inl rfl,?_⟩;have h1:∀a b a' b':List L,iV a a'→iV b b'→iV (a++b) (a'++b'):=by
   intro a;induction a with
   |nil=>intro b a' b' h g;cases a' with|nil=>exact g|cons=>exact h.elim
   |cons x a ih=>intro b a' b' h g;cases a' with|nil=>exact h.elim|cons y a'=>exact⟨h.1,ih _ _ _ h.2 g⟩
  have h2:∀(l:List L),iV l (kw8 l.length .any):=by
   intro l;induction l with
   |nil=>trivial
   |cons x l ih=>exact⟨.inr (.inr rfl),ih⟩
  rw[kF5,kr3];refine h1 _ _ _ _ (kn7 _) ?_;have:=h2 (ns.map (fun m=>L.ptr m 0)++kw8 r .any);simpa using this
theorem zL8:∀{a a' b b':aB},WkH a a'→WkH b b'→WkH (a++b) (a'++b')
 |[],[],_,_,_,g=>g
 |[],_::_,_,_,h,_=>h.elim
 |_::_,[],_,_,h,_=>h.elim
 |_::_,_::_,_,_,h,g=>⟨h.1,zL8 h.2 g⟩
open Go.Vt.Al
def Gn (tk:List Int) (w w':WS):Prop:=WOk tk w→WOk tk w'
section
variable {tk:List Int} {sb:Int→Int} {A:List Int}
theorem j73 (n:Int) (w:WS):Gn tk w (cK tk sb A n w).2:=by
 intro h;unfold cK;cases cC A n with
 |none=>exact h
 |some i=>
  simp only;split
  ·obtain⟨s1,s2⟩:=zM _ (ks0 tk.length) (tk:=tk) (k:=w.next);obtain⟨⟨h1,h2⟩,h3,h4⟩:=h;have key:∀(j:Nat) (k:Int),(w.nums.set i (dG tk w.next))[j]?=some k→(j=i∧k=dG tk w.next)∨(j≠i∧w.nums[j]?=some k):=by
    intro j k hj;rw[ky5]at hj;by_cases e:i=j
    ·rw[if_pos e]at hj;split at hj
     ·exact .inl ⟨e.symm,(Option.some.inj hj).symm⟩
     ·cases hj
    ·rw[if_neg e]at hj;exact .inr ⟨Ne.symm e,hj⟩
   refine⟨⟨fun p q k hp hq h0=>?_,fun k hk h0=>?_⟩,fun k hk=>?_,by simp only;omega⟩
   ·rcases key p k hp with⟨a1,a2⟩|⟨a1,a2⟩<;>rcases key q k hq with⟨b1,b2⟩|⟨b1,b2⟩
    ·rw[a1,b1]
    ·have:=h3 k (kq0 b2);omega
    ·have:=h3 k (kq0 a2);omega
    ·exact h1 p q k a2 b2 h0
   ·obtain⟨j,hj⟩:=kw9 hk;rcases key j k hj with⟨_,a2⟩|⟨_,a2⟩
    ·rw[a2];exact s2
    ·exact h2 k (kq0 a2) h0
   ·obtain⟨j,hj⟩:=kw9 hk;rcases key j k hj with⟨_,a2⟩|⟨_,a2⟩
    ·simp only;omega
    ·have:=h3 k (kq0 a2);simp only;omega
  ·exact h
theorem lF {α β:Type} {f:α→WS→β×WS}:∀(l:List α),(∀a∈l,∀w,Gn tk w (f a w).2)→∀w,Gn tk w (aX f l w).2
 |[],_,_=>fun h=>h
 |a::l,hf,w=>fun h=>lF l (fun b hb=>hf b (by simp[hb])) _ (hf a (by simp) w h)
theorem za3:∀(t:Ty) (w:WS),Gn tk w (tyF tk sb A t w).2:=by
 intro t;induction t using Ty.ind with
 |h k n l ih=>
 intro w h;simp only[tyF,lE];refine lF l ih _ ?_;split
 ·exact j73 n w h
 ·exact h
theorem je5 (c:Ct) (w:WS):Gn tk w (ctF tk sb A c w).2:=by
 simp only[ctF,lE];exact lF _ (fun t _ w=>za3 t w) w
theorem je6 (m:Tym) (w:WS):Gn tk w (cR tk sb A m w).2:=fun h=>lF (f:=ctF tk sb A) m.cts (fun c _ w=>je5 c w) _ (za3 m.t w h)
theorem je7 (m:Vam) (w:WS):Gn tk w (dK tk sb A m w).2:=za3 m.s.t w
end
section
variable {tk:List Int} {sb:Int→Int}
theorem kp4 {A l:List Int} {w w1:WS} (h:Gn tk (aQ l.length w) w1):Gn tk w (dO A.length w1):=fun hw=>(h hw.enter).leave
theorem uG:∀(s:Stx) (A:List Int) (w:WS),Gn tk w (aS tk sb A s w).2:=by
 intro s;induction s using Stx.ind with
 |h ts vs ss fs gs i1 i2 i3=>
 intro A w h;rw[sI];have b1:=lF (tk:=tk) (f:=cR tk sb A) ts (fun m _ w=>je6 m w) w h;have b2:=lF (tk:=tk) (f:=dK tk sb A) vs (fun m _ w=>je7 m w) _ b1;have b3:=lF (tk:=tk) (f:=eD tk sb A) ss (fun x hx w=>i1 x hx A w) _ b2;have b4:=lF (tk:=tk) (f:=eT tk sb A) fs (fun x hx w=>kp4 fun g=>kp4 ((i2 x hx).2 _ _) ((i2 x hx).1 _ _ g)) _ b3;exact lF (tk:=tk) (f:=jB tk sb A) gs (fun x hx w=>kp4 (i3 x hx _ _)) _ b4
theorem je8 {A:List Int} (a:List Int×Stx) (w:WS):Gn tk w (cL tk sb A a w).2:=kp4 (uG a.2 _ _)
end
theorem je9:∀{l:List Int},(∀(i j:Nat) (k:Int),l[i]?=some k→l[j]?=some k→0≤k→i=j)→(l.filter fun k=>decide (0≤k)).Nodup
 |[],_=>List.nodup_nil
 |x::r,h=>by
  have ih:=je9 (l:=r) fun i j k hi hj h0=>by
   have:=h (i+1) (j+1) k (by simpa using hi) (by simpa using hj) h0;omega
  rw[List.filter_cons];split
  ·rename_i h0;refine List.nodup_cons.2 ⟨fun hm=>?_,ih⟩;obtain⟨j,hj⟩:=kw9 (kG9.1 hm).1;have:=h 0 (j+1) x rfl (by simpa using hj) (of_decide_eq_true h0);omega
  ·exact ih
theorem zL9:∀{l:List Int},l.Pairwise (fun a b=>b<a)→iS l
 |[],_=>trivial
 |x::r,h=>by
  rw[List.pairwise_cons]at h;exact⟨h.1,zL9 h.2⟩
theorem j74 {l:List Int} (h:∀(i j:Nat) (k:Int),l[i]?=some k→l[j]?=some k→0≤k→i=j):(l.filter fun k=>decide (0≤k)).mergeSort (fun x y=>decide (x≤y))=dH l:=by
 generalize hz:(l.filter fun k=>decide (0≤k)).mergeSort (fun x y=>decide (x≤y))=z;have hp:z.Perm (l.filter fun k=>decide (0≤k)):=hz▸List.mergeSort_perm _ _;have hn:z.Nodup:=hp.nodup_iff.2 (je9 h);have hs:z.Pairwise (fun a b=>decide (a≤b)=true):=hz▸List.pairwise_mergeSort (fun a b c h1 h2=>by simp only[decide_eq_true_eq]at *;omega) (fun a b=>by simp only[Bool.or_eq_true,decide_eq_true_eq];omega) _;have hd:iS z.reverse:=zL9 (List.pairwise_reverse.2 ((hs.and hn).imp fun hab=>by
  have h1:=of_decide_eq_true hab.1;have h2:=hab.2;omega))
 have:=zh2 hd (zL l) fun k=>by
  rw[ky6,ky6,hp.mem_iff,kG9,zh3,decide_eq_true_eq];exact And.comm
 have e:=congrArg List.reverse this;simpa using e
end Go.Vt.Tryz
namespace Go.Vt
set_option linter.unusedSectionVars false
set_option linter.unusedVariables false
variable [cJ]
open Go.Proofs Go.Shelf Go.Sort
theorem zM0 {P:Program} {f:FuncId} {fs:List FuncId} {k:Nat} {args:Array Value} {w:World} {R:Ending→World→Prop} (h:∀D,CallsIn (Fence.list fs (some D)) k P f args w R):CallsIn Fence.wide 0 P f args w R:=callsIn_wide.2 (calls_of_every_depth h)
def jC (zs:List Int):List (List D):=zs.map fun n=>[.int .i64 n]
theorem j75 {zs:List Int} {i:Nat} {n:Int} (h:zs[i]?=some n):(jC zs)[i]?=some [.int .i64 n]:=by simp[jC,h]
theorem j76 {w:World} {b q:Nat} {cs:Array Value} {T:TypeId} (d:Array Int) (hb:w.heap[b]?=some (.cells cs T (0,0))) :
  xE w (putRow (Value.int .i64) (Sort.ahead w q) b 0 d) b (putCells (Value.int .i64) 0 d cs) T where
 os:=rfl
 tape:=rfl
 output:=rfl
 size:=by simp[putRow,mapBlock,Sort.ahead]
 other k hk:=by
  simp only[putRow,mapBlock,Sort.ahead];rw[kz1,if_neg (fun e=>hk e.symm)]
 row:=by
  simp only[putRow,mapBlock,Sort.ahead];rw[kz1,if_pos rfl,hb];rfl
theorem jf0 {μ:Pl} {h:aB}:∀(l:List Obj) {w:World},aR w μ h→aR (grow w l.toArray) μ h∧Good w μ h (grow w l.toArray) μ h
 |[],w,H=>by
  have:grow w ([]:List Obj).toArray=w:=grow_empty w;rw[this];exact⟨H,kn9 _ _ _⟩
 |o::l,w,H=>by
  have:grow w (o::l).toArray=grow (w.alloc o) l.toArray:=by
   rw[alloc_eq_grow,grow_grow]
   congr 1
   simp
  rw[this];obtain⟨a,b⟩:=jf0 l (H.lay o);exact⟨a,(Good.lay w μ h o).trans b⟩
theorem j77 {P:Program} {ρ:Ren} (L:Lays.n189 P ρ) (hcal:jM P (ρ.f 189)=true) (ver:Nat) (zs:List Int) (hsz:zs.length<1099511627776) :
  VC P (ρ.f 189) [.one (.own 0 ver zs.length)] [.arr false 1 ver (jC zs)] fun r h'=>r = .tup []∧h'=[.arr false 1 ver (jC (zs.mergeSort fun x y=>decide (x≤y)))]:=by
 refine⟨hcal,fun w μ args H hl ha=>?_⟩
 match args,hl with
 |⟨[v]⟩,_=>
  have hv:=ha 0 _ v rfl rfl;generalize hn:zs.length=nz at hv;have hid:[aI.arr false 1 ver (jC zs)][0]?=some (.arr false 1 ver (jC zs)):=rfl;have ht:∀{w':World} {μ':Pl} {h':aB},aZ w' μ' h' (.tup []) (.tuple #[]):=.tup rfl (fun j l v hj _=>by simp at hj);cases hv with
  |one ho hl=>
   cases hl with
   |ownOld h1 h2=>rw[hid]at h1;cases h1;omega
   |ownDead h1=>rw[hid]at h1;cases h1
   |ownNil h1 hμ=>
    have hz:zs=[]:=List.eq_nil_of_length_eq_zero hn;subst hz;refine(zM0 fun D=>AnyS.slices_Sort_int_none_in L D none 0 w).mono ?_;rintro e w' ⟨rfl,rfl⟩;have e0:([]:List Int).mergeSort (fun x y=>decide (x≤y))=[]:=by simp
    rw[e0];exact⟨_,_,_,μ,rfl,⟨rfl,rfl⟩,H,ht,kn9 _ _ _⟩
   |@own _ _ _ _ _ _ _ _ b cap cs T h1 hlen hμ hcap hb hcs=>
    subst hn;rw[hid]at h1;cases h1;rcases H.arr _ _ _ _ _ hid with⟨hn',_⟩|⟨b',cs',T',q1,q2,q3,q4,q5,q6⟩
    ·rw[hμ]at hn';cases hn'
    rw[hμ]at q1;cases q1;rw[hb]at q2;cases q2;have hH:Holds (Value.int .i64) w b 0 zs.toArray:=by
     intro j hj;have hj':j<zs.length:=by simpa using hj
     obtain⟨u,hu,hr⟩:=q6 j 0 _ _ (j75 (kr1 hj')) rfl;constructor
     ·unfold World.cell?;simp only[hb,kt2];rw[show j*1+0=j by omega]at hu;cases hr;simpa[hj']using hu
     ·unfold World.frozen?;simp[hb]
    have hbl:b<w.heap.size:=(Array.getElem?_eq_some_iff.1 hb).1;refine(zM0 fun D=>AnyS.slices_Sort_int_in L D b 0 cap zs w hH hbl (by omega)).mono ?_;rintro e w' ⟨rfl,q,os,rfl⟩;generalize hys:(zs.mergeSort fun x y=>decide (x≤y))=ys;have hyl:ys.length=zs.length:=by rw[←hys];exact kH5 _
    have hrow:=j76 (q:=q) ys.toArray hb;have hsz':(putCells (Value.int .i64) 0 ys.toArray cs).size=cs.size:=by simp[putCells]
    have hfit:lJ (.arr false 1 ver (jC zs)) (.arr false 1 ver (jC ys)):=⟨rfl,rfl,rfl,rfl,by simp[jC,hyl]⟩;have hzs:zs.length≤cs.size:=by simpa[jC]using q3
    have hnew:xC (putRow (Value.int .i64) (Sort.ahead w q) b 0 ys.toArray) μ ([aI.arr false 1 ver (jC zs)].set 0 (.arr false 1 ver (jC ys))) (putCells (Value.int .i64) 0 ys.toArray cs) (.arr false 1 ver (jC ys)):=by
     refine⟨?_,?_,?_,?_⟩
     ·rw[hsz'];simpa[jC,hyl]using hzs
     ·intro u hu;obtain⟨k,hk,rfl⟩:=Array.getElem_of_mem hu;simp only[putCells,kH6];split
      ·rfl
      ·exact q4 _ (Array.getElem_mem _)
     ·intro i e hi;simp only[jC,ks1,kv7]at hi;obtain⟨l,_,rfl⟩:=hi;rfl
     ·intro i j e x hi hj;simp only[jC,ks1,kv7]at hi;obtain⟨l,hl,rfl⟩:=hi;have hlt:i<ys.length:=(kp9.1 hl).1;cases j with
      |succ j=>simp at hj
      |zero=>
       simp at hj;subst hj;have hlt2:i<cs.size:=by omega
       refine⟨.int .i64 l,?_,.int _ _⟩;have:(putCells (Value.int .i64) 0 ys.toArray cs)[i*1+0]?=some ((putCells (Value.int .i64) 0 ys.toArray cs)[i]'(by rw[hsz'];exact hlt2)):=by
        rw[show i*1+0=i by omega];exact Array.getElem?_eq_getElem _
       rw[this];simp only[putCells,kH6];rw[if_pos ⟨kt1 _,by simpa using hlt⟩]
       congr 2
       have:ys[i]=l:=by rw[kr1 hlt]at hl;exact Option.some.inj hl
       simpa[hlt]using this
    have g:=Good.row (h:=[aI.arr false 1 ver (jC zs)]) hid rfl hfit hμ hb hrow hsz';have H':=H.row hid rfl hfit hμ hb hrow hsz' hnew;obtain⟨H2,g2⟩:=jf0 os.toList H';have e1:os.toList.toArray=os:=by simp
    rw[e1]at H2 g2;exact⟨_,_,_,μ,rfl,⟨rfl,rfl⟩,H2,ht,g.trans g2⟩
theorem j78 {P:Program} {ρ:Ren} (L:Lays.n189 P ρ) (hcal:jM P (ρ.f 189)=true):VC P (ρ.f 189) [.one .nils] [] fun r h'=>r = .tup []∧h'=[]:=by
 refine⟨hcal,fun w μ args H hl ha=>?_⟩
 match args,hl with
 |⟨[v]⟩,_=>
  have hv:=ha 0 _ v rfl rfl;cases hv with
  |one ho hl=>
   cases hl with
   |nils=>
    refine(zM0 fun D=>AnyS.slices_Sort_int_none_in L D none 0 w).mono ?_;rintro e w' ⟨rfl,rfl⟩;exact⟨_,_,_,μ,rfl,⟨rfl,rfl⟩,H,.tup rfl (fun j l v hj _=>by simp at hj),kn9 _ _ _⟩
end Go.Vt
namespace Go.Vt.Tryz
open Go.Proofs Go.Shelf
def j79:Ren:=⟨fun n=>if n=343 then 309 else if n=332 then 298 else if n=331 then 297 else if n=330 then 296 else if n=329 then 295 else if n=328 then 294 else if n=301 then 275 else if n=300 then 274 else if n=299 then 272 else if n=298 then 271 else if n=297 then 270 else if n=296 then 269 else if n=295 then 268 else if n=294 then 267 else if n=257 then 231 else if n=216 then 273 else if n=215 then 299 else if n=189 then 166 else if n=129 then 277 else if n=128 then 276 else if n=125 then 232 else n,fun n=>if n=229 then 418 else if n=228 then 417 else if n=222 then 409 else if n=218 then 405 else if n=183 then 382 else if n=182 then 381 else if n=131 then 386 else if n=53 then 391 else if n=51 then 389 else if n=46 then 357 else if n=28 then 85 else n,fun n=>n⟩
theorem jf1:Lays.n189 kp8 j79 where
 mixed:=mixed
 f125:=by kernel_rfl
 f128:=by kernel_rfl
 f129:=by kernel_rfl
 f189:=by kernel_rfl
 f215:=by kernel_rfl
 f216:=by kernel_rfl
 f257:=by kernel_rfl
 f294:=by kernel_rfl
 f295:=by kernel_rfl
 f296:=by kernel_rfl
 f297:=by kernel_rfl
 f298:=by kernel_rfl
 f299:=by kernel_rfl
 f300:=by kernel_rfl
 f301:=by kernel_rfl
 f328:=by kernel_rfl
 f329:=by kernel_rfl
 f330:=by kernel_rfl
 f331:=by kernel_rfl
 f332:=by kernel_rfl
 f343:=by kernel_rfl
 t0:=Tryz.underlying0
 a0:=Tryz.isAgg0
 z0:=Tryz.sizeOf0
 v0:=Tryz.zeroValue0
 t3:=Tryz.underlying3
 a3:=Tryz.isAgg3
 z3:=Tryz.sizeOf3
 v3:=Tryz.zeroValue3
 t4:=Tryz.underlying4
 a4:=Tryz.isAgg4
 z4:=Tryz.sizeOf4
 v4:=Tryz.zeroValue4
 t5:=Tryz.underlying5
 a5:=Tryz.isAgg5
 z5:=Tryz.sizeOf5
 v5:=Tryz.zeroValue5
 t9:=Tryz.underlying9
 a9:=Tryz.isAgg9
 z9:=Tryz.sizeOf9
 v9:=Tryz.zeroValue9
 t28:=Tryz.underlying85
 a28:=Tryz.isAgg85
 z28:=Tryz.sizeOf85
 v28:=Tryz.zeroValue85
 t46:=Tryz.underlying357
 a46:=Tryz.isAgg357
 z46:=Tryz.sizeOf357
 v46:=Tryz.zeroValue357
 t51:=Tryz.underlying389
 a51:=Tryz.isAgg389
 z51:=Tryz.sizeOf389
 v51:=Tryz.zeroValue389
 t53:=Tryz.underlying391
 a53:=Tryz.isAgg391
 z53:=Tryz.sizeOf391
 v53:=Tryz.zeroValue391
 t131:=Tryz.underlying386
 a131:=Tryz.isAgg386
 z131:=Tryz.sizeOf386
 v131:=Tryz.zeroValue386
 t182:=Tryz.underlying381
 a182:=Tryz.isAgg381
 z182:=Tryz.sizeOf381
 v182:=Tryz.zeroValue381
 t183:=Tryz.underlying382
 a183:=Tryz.isAgg382
 z183:=Tryz.sizeOf382
 v183:=Tryz.zeroValue382
 t218:=Tryz.underlying405
 a218:=Tryz.isAgg405
 z218:=Tryz.sizeOf405
 v218:=Tryz.zeroValue405
 t222:=Tryz.underlying409
 a222:=Tryz.isAgg409
 z222:=Tryz.sizeOf409
 v222:=Tryz.zeroValue409
 t228:=Tryz.underlying417
 a228:=Tryz.isAgg417
 z228:=Tryz.sizeOf417
 v228:=Tryz.zeroValue417
 t229:=Tryz.underlying418
 a229:=Tryz.isAgg418
 z229:=Tryz.sizeOf418
 v229:=Tryz.zeroValue418
theorem jf2 (ver:Nat) (zs:List Int) (hsz:zs.length<1099511627776) :
  VC kp8 166 [.one (.own 0 ver zs.length)] [.arr false 1 ver (jC zs)] fun r h'=>r = .tup []∧h'=[.arr false 1 ver (jC (zs.mergeSort fun x y=>decide (x≤y)))]:=
 j77 jf1 (by kernel_rfl) ver zs hsz
open Go.Proofs Go.Vt.Al
def zM1 (H:aB) (c a:Nat) (ms:List Nat) (A fr l:List Int) (w w2:WS) (f:FuncId) (caps:List L) (o:Nat) (O1:aI):Prop:=
 ∀(t:aB) (a':Nat) (b':Option Nat) (ms':List Nat),(∀m∈ms',m∈ms∨H.length≤m)→Rg (H.set a .dead++t) c a' ms' b' (A++l) (aQ l.length w).nums→H.length≤a'→
  (∀nx bd N',caps.all (dX (st (H.set a .dead++t) (cn c fr nx bd ms' (A++l) N')))=true)∧
  VC kp8 f (caps.map .one) (st (H.set a .dead++t) (cn c fr w.next (bdL b' a' ms'.length) ms' (A++l) (aQ l.length w).nums)) fun r h'=>r = .tup []∧∃b'',(b''=none→ms'=[])∧
   h'=st (((H.set a .dead++t).set a' .dead).set o O1) (cn c fr w2.next (bdL b'' (H.length+t.length) ms'.length) ms' (A++l) w2.nums)++[arO b'' ms']
theorem jf3 {H:aB} {c a:Nat} {ms:List Nat} {b:Option Nat} {A fr l:List Int} {w w2:WS} {f:FuncId} {caps:List L} {o:Nat} {O1:aI} (hR:Rg H c a ms b A w.nums) (hA:ms.length+l.length<500000000)
  (hcap:∀x∈caps,clL H.length x) (hdo:zM1 H c a ms A fr l w w2 f caps o O1) (ho:o<H.length) (hoc:o≠c) (hoa:o≠a) (hom:o∉ms) (hO1:bD (lt H.length) O1=some O1)
  (hw2:w2.nums.length=ms.length+l.length) (hwk:WOk fr w2) :
  VC kp8 156 [.one (.ptr c 0),.one (.d (.sl (nums l))),.one (.fn f caps)] (st H (cn c fr w.next (bdL b a ms.length) ms A w.nums)) fun r h'=>r = .one (.d (.sl (nums (dH (w2.nums.drop ms.length)))))∧
   ∃b'',(b''=none→ms=[])∧h'=st ((H.set a .dead).set o O1) (cn c fr w2.next (bdL b'' H.length ms.length) ms A (w2.nums.take ms.length))++[arO b'' ms]:=by
 have hl:∀ov,(st H ov).length=H.length:=cD H;obtain⟨q,hq⟩:∃q,q=H.length:=⟨_,rfl⟩;simp only[←hq]at hl;have hcq:c<q:=hq▸hR.c_;have haq:a<q:=hq▸hR.a_;have gc:=hR.gc;have ga:=hR.ga;have hvl:∀(nx:Int) (N:List Int),iO (st H (cn c fr nx (bdL b a ms.length) ms A N)) .slice (.one (bdL b a ms.length))=some ms.length:=fun nx N=>j65 (by have:=ga fr nx (bdL b a ms.length) N [];rwa [ku3]at this) hR.b_;have gc0:(st H (cn c fr w.next (bdL b a ms.length) ms A w.nums))[c]?=some (.box [.d (.sl (nums fr)),.d (.int .i64 w.next),bdL b a ms.length]):=by have:=gc fr w.next (bdL b a ms.length) w.nums [];rwa [ku3]at this
 refine aU mixed jM6 (by simp) ?_;show vwp kp8 (st H (cn c fr w.next (bdL b a ms.length) ms A w.nums)).length zz7 _ [(0,.one (.ptr c 0)),(1,.one (.d (.sl (nums l)))),(2,.one (.fn f caps))] (st H (cn c fr w.next (bdL b a ms.length) ms A w.nums));conv in zz7=>cbv
 rw[aO];simp -implicitDefEqProofs only[oS.d,J0,J1,J2,J3,J4,J5,J6,J7,J8,↓reduceIte,reduceCtorEq,hl,wg0 (hl _),wgk (hl _),ws0 (hl _),wsk (hl _),bY (hl _),kr3,gc0,hvl,bU];obtain⟨bi,hbi⟩:∃bi:Nat→Option Nat,bi=fun i=>if i=0 then b else some 0:=⟨_,rfl⟩
 obtain⟨Hx,hHx⟩:∃Hx:Nat→aB,Hx=fun i=>H.set a .dead++kw8 i .dead:=⟨_,rfl⟩;obtain⟨mx,hmx⟩:∃mx:Nat→List Nat,mx=fun i=>ms++(kt4 i).map (q+·):=⟨_,rfl⟩;obtain⟨Ax,hAx⟩:∃Ax:Nat→List Int,Ax=fun i=>A++l.take i:=⟨_,rfl⟩;obtain⟨Nx,hNx⟩:∃Nx:Nat→List Int,Nx=fun i=>w.nums++kw8 i (-1):=⟨_,rfl⟩;obtain⟨Hi,hHi⟩:∃Hi:Nat→aB,Hi=fun i=>st (Hx i) (cn c fr w.next (bdL (bi i) (q+i) (mx i).length) (mx i) (Ax i) (Nx i))++[arO (bi i) (mx i)]:=⟨_,rfl⟩;have e0:Hi 0=st (H.set a .dead) (cn c fr w.next (bdL b q ms.length) ms A w.nums)++[arO b ms]:=by simp[hHi,hHx,hmx,hAx,hNx,hbi]
 have hmv:eP (st H (cn c fr w.next (bdL b a ms.length) ms A w.nums)) (mvs b c q)=some (st (H.set a .dead) (cn c fr w.next (bdL b q ms.length) ms A w.nums)++[arO b ms]):=by simpa using je2 (t:=[]) (fr:=fr) (nx:=w.next) (N:=w.nums) hR hq.symm
 have hcd:Clo q (H.set a .dead):=fun x hx=>by
  rcases kv8 hx with hx|hx
  ·exact hq▸hR.cl x hx
  ·subst hx;rfl
 have hmq:∀m∈ms,m<q:=hq▸hR.ms_;have hfn:clL q (.fn f caps):=eN.2 (hq▸hcap);refine bE (α:=Nat) (fun i=>[(20,.one (.d (.int .i64 i))),(19,.one (.d (.int .i64 l.length))),(18,.one (.d (.sl (nums l)))),(7,.one (.d (.int .i64 ms.length))),(0,.one (.ptr c 0)),(2,.one (.fn f caps))]) Hi (fun i=>i≤l.length) (fun i=>l.length-i) 0 ?_ (kt1 _) ?_
 ·rw[e0];refine oA [] (mvs b c q) (wid q [0]) _ rfl hmv (ko1 _) (gQ rfl) jV (gR (by rw[ku4,hq]) hcd (gT (j:=0) (j':=0) rfl) (by simp only[bA,kr6,sL hmq])) ⟨⟨_,ko0 _,rfl⟩,⟨_,ko0 _,rfl⟩,⟨_,ko0 _,rfl⟩,⟨_,ko0 _,rfl⟩,⟨_,ko0 _,wP hcq⟩,⟨_,ko0 _,je1 hfn (by intros;simp)⟩,trivial⟩
 ·intro i hi;have hlx:(Hx i).length=q+i:=by simp[hHx,hq]
  have hl2:∀ov,(st (Hx i) ov).length=q+i:=fun ov=>(cD _ _).trans hlx;have hw:=bQ (a:=i) rfl (by omega);rcases ks3 i l.length with h5|h5
  ·have hc:((i:Int)<(l.length:Int))=True:=by simp;omega
   obtain⟨u,hu⟩:=bK h5;have hg:=iP hu;rw[hHi];simp only;have gc2:=fun t nx bd=>g_c (H:=Hx i) (t:=t) (c:=c) (fr:=fr) (nx:=nx) (bd:=bd) (ms:=mx i) (A:=Ax i) (N:=Nx i) (by omega);have sc2:=fun t nx nx' bd bd'=>s_c (H:=Hx i) (t:=t) (c:=c) (fr:=fr) (fr':=fr) (nx:=nx) (nx':=nx') (bd:=bd) (bd':=bd') (ms:=mx i) (A:=Ax i) (N:=Nx i) (by omega);have hbx:bi i=none→mx i=[]:=fun e=>by
    rw[hbi]at e;simp only at e;split at e
    ·rename_i h0;subst h0;simp[hmx,hR.b_ e]
    ·cases e
   have hmlen:(mx i).length=ms.length+i:=by simp[hmx]
   have hmlt:∀m∈mx i,m<q+i:=fun m hm=>by
    rw[hmx]at hm;rcases kt5.1 hm with hm|hm
    ·have:=hmq m hm;omega
    ·obtain⟨j,hj,rfl⟩:=ky3.1 hm;have:=kx6.1 hj;omega
   have e1:Hi (i+1)=st (Hx i) (cn c fr w.next (.bsl (q+i+1) 0 ((mx i).length+1)) (mx i) (Ax i) (Nx i))++[.box [.d (.int .i64 u),.d (.int .i64 (-1))],.box ((mx i).map (fun m=>.ptr m 0)++[.ptr (q+i) 0])]:=by
    have k1:Hx (i+1)=Hx i++[.dead]:=by simp only[hHx,kI3,kr3]
    have k2:mx (i+1)=mx i++[(Hx i).length]:=by rw[hlx];simp only[hmx,List.range_succ,kF5,List.map_cons,kq5,kr3]
    have k3:Ax (i+1)=Ax i++[u]:=by simp only[hAx,kw0,hu,kz8,kr3]
    have k4:Nx (i+1)=Nx i++[-1]:=by simp only[hNx,kI3,kr3]
    have k5:bi (i+1)=some 0:=by simp[hbi]
    rw[hHi];simp only[k1,k2,k3,k4,k5,bdL,arO];rw[j62 (by omega) (by rw[hlx];exact hmlt) (by rw[hmlen,hAx];simp[hR.lA];omega) (by rw[hmlen,hNx];simp[hR.lN])];simp[hlx,kD5]
   have hap:=j64 (h:=st (Hx i) (cn c fr w.next (bdL (bi i) (q+i) (mx i).length) (mx i) (Ax i) (Nx i))++[arO (bi i) (mx i),.box [.d (.int .i64 u),.d (.int .i64 (-1))],.box [.ptr (q+i+1) 0]]) (e:=EI.mk 1 8 (some (.one (.d .nilp))) false) (y:=.ptr (q+i+1) 0) (by rw[wg0 (hl2 _)];rfl) hbx rfl rfl (by rw[hmlen];simp[aV];omega) (by rw[hmlen];simp[aV];omega);simp -implicitDefEqProofs only[oS.d,J0,J1,J2,J3,J4,J5,J6,J7,J8,↓reduceIte,reduceCtorEq,hap,sc2,hw,hc,hg,kq2,kq4,bU,hl2,wg0 (hl2 _),wgk (hl2 _),ws0 (hl2 _),wsk (hl2 _),bY (hl2 _),kr3,gc2,rC];refine⟨i+1,by omega,by omega,?_⟩;rw[hHi]at e1;simp only at e1;rw[e1];have hcx:Clo (q+i) (Hx i):=by
    rw[hHx];refine(hcd.mono (by omega)).app fun x hx=>?_;rw[kA9 hx];rfl
   have hren:=j66 (n:=q+i) (k:=1) (j:=0) (js:=[1,3]) hmlt rfl;exact gJ (wid (q+i) [1,3]) _ (ko1 _) (gQ rfl) (zL6 (by omega)) (gR hlx hcx (bd':=.bsl (q+i+1) 0 ((mx i).length+1)) (by simp only[aG,fD];rfl) (by simp only[bA,kr6,ks4,hren,Nat.add_zero];rfl))
    ⟨⟨_,ko0 _,rfl⟩,⟨_,ko0 _,rfl⟩,⟨_,ko0 _,rfl⟩,⟨_,ko0 _,rfl⟩,⟨_,ko0 _,wP (by omega)⟩,⟨_,ko0 _,je1 (eN.2 fun x hx=>by
     have:=eN.1 hfn x hx;exact zX (fun j hj=>sJ (by omega)) x this) (by intros;simp)⟩,trivial⟩
  ·have hc:((i:Int)<(l.length:Int))=False:=by simp;omega
   have hie:i=l.length:=by omega
   subst hie;rw[hHi];simp only;have hmlen:(mx l.length).length=ms.length+l.length:=by simp[hmx]
   have hmlt:∀m∈mx l.length,m<q+l.length:=fun m hm=>by
    rw[hmx]at hm;rcases kt5.1 hm with hm|hm
    ·have:=hmq m hm;omega
    ·obtain⟨j,hj,rfl⟩:=ky3.1 hm;have:=kx6.1 hj;omega
   have hmor:∀m∈mx l.length,m∈ms∨H.length≤m:=fun m hm=>by
    rw[hmx]at hm;rcases kt5.1 hm with hm|hm
    ·exact .inl hm
    ·obtain⟨j,hj,rfl⟩:=ky3.1 hm;right;omega
   have hbx:bi l.length=none→mx l.length=[]:=fun e=>by
    rw[hbi]at e;simp only at e;split at e
    ·rename_i h0;simp[hmx,hR.b_ e,h0]
    ·cases e
   have hAl:Ax l.length=A++l:=by simp[hAx]
   have hNl:Nx l.length=(aQ l.length w).nums:=by simp[hNx,aQ]
   have hHl:Hx l.length++[arO (bi l.length) (mx l.length)]=H.set a .dead++(kw8 l.length .dead++[arO (bi l.length) (mx l.length)]):=by simp[hHx]
   have hR2:Rg (H.set a .dead++(kw8 l.length .dead++[arO (bi l.length) (mx l.length)])) c (q+l.length) (mx l.length) (bi l.length) (A++l) (aQ l.length w).nums:=by
    rw[←hHl];exact {
     cl:=by
      rw[kq3,hlx];refine Clo.app ?_ (dS.2 ⟨zL7 fun m hm=>by have:=hmlt m hm;simp;omega,eE.2 trivial⟩);rw[hHx];refine(hcd.mono (by simp;omega)).app fun x hx=>?_;rw[kA9 hx];rfl
     c_:=by rw[kq3,hlx];omega
     ms_:=fun m hm=>by rw[kq3,hlx];have:=hmlt m hm;omega
     nd:=by
      rw[hmx];exact zL2 _ _ (fun x hx hm=>by
       obtain⟨j,hj,rfl⟩:=ky3.1 hm;have:=hmq _ hx;omega) hR.nd (zL3 q _ (nodup_range _))
     cm:=fun hm=>by
      rcases hmor c hm with h|h
      ·exact hR.cm h
      ·omega
     ha:=by rw[wg0 hlx];rfl
     ac:=by omega
     am:=fun hm=>by have:=hmlt _ hm;omega
     b_:=hbx
     lA:=by rw[hmlen,kq3,hR.lA]
     lN:=by rw[hmlen];simp[aQ,hR.lN] }
   obtain⟨d1,d2⟩:=hdo _ _ _ _ hmor hR2 (by omega);have hst:st (Hx l.length) (cn c fr w.next (bdL (bi l.length) (q+l.length) (mx l.length).length) (mx l.length) (Ax l.length) (Nx l.length))++[arO (bi l.length) (mx l.length)]=st (H.set a .dead++(kw8 l.length .dead++[arO (bi l.length) (mx l.length)])) (cn c fr w.next (bdL (bi l.length) (q+l.length) (mx l.length).length) (mx l.length) (A++l) (aQ l.length w).nums):=by
    rw[←hHl,zL0 (zL4 (by omega) fun m hm=>by have:=hmlt m hm;omega),hAl,hNl]
   rw[hst];simp -implicitDefEqProofs only[oS.d,J0,J1,J2,J3,J4,J5,J6,J7,J8,↓reduceIte,reduceCtorEq,hc,d1];have hlen2:(H.set a aI.dead++(kw8 l.length aI.dead++[arO (bi l.length) (mx l.length)])).length=q+l.length+1:=by simp[hq,kD5]
   refine qO rfl d2 (by rw[cD];exact sK hR2.cl hR2.a_) (fun v hv=>?_) ?_
   ·obtain⟨x,hx,rfl⟩:=ky3.1 hv;rw[cD,hlen2];exact zX (fun j hj=>sJ (by omega)) x (hq▸hcap x hx)
   ·rintro _ _ ⟨rfl,b2,hb2,rfl⟩;refine⟨by rw[cD,kq3 (bs:=[_]),cD];simp,?_⟩;have e3:H.length+(kw8 l.length aI.dead++[arO (bi l.length) (mx l.length)]).length=q+l.length+1:=by simp[hq,kD5]
    rw[e3];obtain⟨H3,hH3⟩:∃H3,H3=((H.set a aI.dead++(kw8 l.length aI.dead++[arO (bi l.length) (mx l.length)])).set (q+l.length) aI.dead).set o O1:=⟨_,rfl⟩;rw[←hH3];have hl3:H3.length=q+l.length+1:=by rw[hH3,ku4,ku4,hlen2]
    have hl4:∀ov,(st H3 ov).length=q+l.length+1:=fun ov=>(cD _ _).trans hl3;have gc3:=fun t nx bd N=>g_c (H:=H3) (t:=t) (c:=c) (fr:=fr) (nx:=nx) (bd:=bd) (ms:=mx l.length) (A:=A++l) (N:=N) (by omega);have ga3:=fun t nx bd N=>show(st H3 (cn c fr nx bd (mx l.length) (A++l) N)++arO b2 (mx l.length)::t)[q+l.length+1]?=some (arO b2 (mx l.length))from by rw[wg0 (hl4 _)];rfl
    have hsl:=fun t=>j67 (e:=EI.mk 1 8 (some (.one (.d .nilp))) false) (k:=ms.length) (n:=l.length) (ga3 t w2.next (bdL b2 (q+l.length+1) (mx l.length).length) w2.nums) hb2 rfl hmlen rfl;have hvs:=fun t=>j69 (k:=ms.length) (n:=l.length) (ga3 t w2.next (bdL b2 (q+l.length+1) (mx l.length).length) w2.nums) hb2 hmlen;simp -implicitDefEqProofs only[oS.d,J1,J2,J3,J4,J5,J6,J7,J8,↓reduceIte,reduceCtorEq,hsl,hvs,hl4,wg0 (hl4 _),wgk (hl4 _),ws0 (hl4 _),wsk (hl4 _),bY (hl4 _),kr3,gc3];obtain⟨p,hp⟩:∃p,p=q+l.length+1:=⟨_,rfl⟩;rw[←hp]at hl3 hl4 ga3 hsl hvs ⊢;obtain⟨Fj,hFj⟩:∃Fj:Nat→List Int,Fj=fun j=>((w2.nums.drop ms.length).take j).filter fun k=>decide (0≤k):=⟨_,rfl⟩;have hmp:∀m∈mx l.length,m<p:=fun m hm=>by have:=hmlt m hm;omega
    have hc3:Clo p H3:=fun x hx=>by
     rw[hH3]at hx;rcases kv8 hx with hx|hx
     ·rcases kv8 hx with hx|hx
      ·have:=hR2.cl x hx;rw[hlen2]at this;rw[hp];exact this
      ·subst hx;rfl
     ·subst hx;exact zZ (fun j hj=>sJ (by omega)) hO1
    refine bE (α:=Nat) (fun j=>[(46,.one (.d (.int .i64 j))),(45,.one (.d (.int .i64 l.length))),(44,.one (slB b2 p ms.length l.length)),(10,.one (.own (p+1) (Fj j).length (Fj j).length)),(7,.one (.d (.int .i64 ms.length))),(0,.one (.ptr c 0))])
     (fun j=>st H3 (cn c fr w2.next (bdL b2 p (mx l.length).length) (mx l.length) (A++l) w2.nums)++[arO b2 (mx l.length),.arr false 1 (Fj j).length (nums (Fj j))]) (fun j=>j≤l.length) (fun j=>l.length-j) 0 ?_ (kt1 _) ?_
    ·have e4:Fj 0=[]:=by simp[hFj]
     rw[e4];refine oA [(10,1)] [] (wid p [0,1]) _ (by simp only[tC,kt8];rfl) rfl (ko1 _) (gQ rfl) (zL6 (by omega)) ?_ ?_
     ·rw[kr3];exact gR hl3 hc3 (gT (j:=0) (j':=0) rfl) (by simp only[kr0,kr2,bA,kr6,ks4,sL hmp];rfl)
     ·rw[bY (hl4 _)];exact⟨⟨_,ko0 _,rfl⟩,⟨_,ko0 _,rfl⟩,⟨_,ko0 _,je4 rfl⟩,⟨_,ko0 _,zL5 rfl⟩,⟨_,ko0 _,rfl⟩,⟨_,ko0 _,wP (by omega)⟩,trivial⟩
    ·intro j hj;have hw:=bQ (a:=j) rfl (by omega);rcases ks3 j l.length with h6|h6
     ·have hc:((j:Int)<(l.length:Int))=True:=by simp;omega
      obtain⟨r,rfl⟩:∃r,b2=some r:=by
       cases b2 with
       |none=>have:=hb2 rfl;rw[this]at hmlen;simp at hmlen;omega
       |some r=>exact⟨r,rfl⟩
      obtain⟨y,hy⟩:=bK (l:=w2.nums) (i:=ms.length+j) (by omega);have hmj:(mx l.length)[ms.length+j]?=some (q+j):=by
       rw[hmx];simp only;rw[kr5 (by omega),Nat.add_sub_cancel_left,ks1,List.getElem?_range h6];rfl
      have hix:=j70 (k:=ms.length) (n:=l.length) (ga3 [.arr false 1 (Fj j).length (nums (Fj j))] w2.next (bdL (some r) p (mx l.length).length) w2.nums) hb2 hmlen h6;have hdr:=jd9 (jd8 (r:=r) hmj);have gm3:=fun t nx bd=>g_m (H:=H3) (t:=t) (c:=c) (m:=q+j) (i:=ms.length+j) (fr:=fr) (nx:=nx) (bd:=bd) (ms:=mx l.length) (A:=A++l) (N:=w2.nums) (by omega) (zc6 hR2.nd hmj) (by omega);have hyy:w2.nums.getD (ms.length+j) 0=y:=by simp[ku6,hy]
      have hga:∀t:aB,(st H3 (cn c fr w2.next (bdL (some r) p (mx l.length).length) (mx l.length) (A++l) w2.nums)++arO (some r) (mx l.length)::t)[p]?=some (.box ((mx l.length).map (fun m=>.ptr m 0)++kw8 r .any)):=fun t=>ga3 t _ _ _;have hkeep:∀(j:Nat) (T:Sl) (x:aB),kt8 46 T=some (.one (.d (.int .i64 j)))→kt8 45 T=some (.one (.d (.int .i64 l.length)))→kt8 44 T=some (.one (slB (some r) p ms.length l.length))→kt8 10 T=some (.one (.own (p+1) (Fj j).length (Fj j).length))→kt8 7 T=some (.one (.d (.int .i64 ms.length)))→kt8 0 T=some (.one (.ptr c 0))→
        fG q T (st H3 (cn c fr w2.next (bdL (some r) p (mx l.length).length) (mx l.length) (A++l) w2.nums)++arO (some r) (mx l.length)::.arr false 1 (Fj j).length (nums (Fj j))::x) [(46,.one (.d (.int .i64 j))),(45,.one (.d (.int .i64 l.length))),(44,.one (slB (some r) p ms.length l.length)),(10,.one (.own (p+1) (Fj j).length (Fj j).length)),(7,.one (.d (.int .i64 ms.length))),(0,.one (.ptr c 0))]
         (st H3 (cn c fr w2.next (bdL (some r) p (mx l.length).length) (mx l.length) (A++l) w2.nums)++[arO (some r) (mx l.length),.arr false 1 (Fj j).length (nums (Fj j))]):=fun j T x h1 h2 h3 h4 h5 h6=>
       gJ (wid p [0,1]) _ (ko1 _) (gQ rfl) (zL6 (by omega)) (gR hl3 hc3 (gT (j:=0) (j':=0) rfl) (by simp only[bA,kr6,ks4,sL hmp];rfl))
        ⟨by rw[h1];exact⟨_,ko0 _,rfl⟩,by rw[h2];exact⟨_,ko0 _,rfl⟩,by rw[h3];exact⟨_,ko0 _,je4 rfl⟩,by rw[h4];exact⟨_,ko0 _,zL5 rfl⟩,by rw[h5];exact⟨_,ko0 _,rfl⟩,by rw[h6];exact⟨_,ko0 _,wP (by omega)⟩,trivial⟩
      have hF1:Fj (j+1)=if 0≤y then Fj j++[y]else Fj j:=by
       rw[hFj];simp only;rw[kw0,kv4,hy];simp only[kz8,List.filter_append];by_cases h:0≤y
       ·simp[h]
       ·simp[h]
      have hFl:(Fj j).length≤j:=by
       rw[hFj];exact kD2 (kH7 _ _) (by rw[kt3];omega)
      by_cases hy0:0≤y
      ·have e5:(0≤y)=True:=by simp[hy0]
       simp -implicitDefEqProofs only[oS.d,J1,J2,J3,J4,J5,J6,J7,J8,↓reduceIte,reduceCtorEq,hc,hix,hdr,hga,gm3,hyy,e5,hw,hl4,wgk (hl4 _),ws0 (hl4 _),wsk (hl4 _),bY (hl4 _),kq2,kq4];rw[if_pos hy0]at hF1;have hcap2:((Fj j).length+1)*8≤aV∧(Fj j).length+1≤aV:=by simp[aV];omega
       have htk:(nums (Fj j)).take (Fj j).length++[[.int .i64 y]]=nums (Fj (j+1)):=by rw[kq6 (by rw[bU];exact ks0 _),hF1];simp[nums]
       have hln:(Fj (j+1)).length=(Fj j).length+1:=by rw[hF1];simp
       simp -implicitDefEqProofs only[oS.d,J1,J2,J3,J4,J5,J6,J7,J8,↓reduceIte,reduceCtorEq,hcap2,htk,hw,hl4,wgk (hl4 _),ws0 (hl4 _),wsk (hl4 _),bY (hl4 _),kr3];refine⟨j+1,by omega,by omega,?_⟩;have hk:=hkeep (j+1);rw[hln]at hk ⊢;refine hk _ [_] ?_ ?_ ?_ ?_ ?_ ?_<;>rfl
      ·have e5:(0≤y)=False:=by simp;omega
       rw[if_neg hy0]at hF1;simp -implicitDefEqProofs only[oS.d,J1,J2,J3,J4,J5,J6,J7,J8,↓reduceIte,reduceCtorEq,hc,hix,hdr,hga,gm3,hyy,e5,hw,hl4,wgk (hl4 _),ws0 (hl4 _),wsk (hl4 _),bY (hl4 _),kq2,kq4];refine⟨j+1,by omega,by omega,?_⟩;have hk:=hkeep (j+1);rw[hF1]at hk ⊢;refine hk _ [] ?_ ?_ ?_ ?_ ?_ ?_<;>rfl
     ·have hc:((j:Int)<(l.length:Int))=False:=by simp;omega
      have hje:j=l.length:=by omega
      subst hje;have sc3:=fun t nx nx' bd bd'=>s_c (H:=H3) (t:=t) (c:=c) (fr:=fr) (fr':=fr) (nx:=nx) (nx':=nx') (bd:=bd) (bd':=bd') (ms:=mx l.length) (A:=A++l) (N:=w2.nums) (by omega);have hsh:=fun t=>j68 (e:=EI.mk 1 8 (some (.one (.d .nilp))) false) (k:=ms.length) (ga3 t w2.next (bdL b2 p (mx l.length).length) w2.nums) hb2 rfl (by omega) rfl;have hkb:jR (V.one (bdL b2 p ms.length))=true:=by cases b2<;>rfl
      simp -implicitDefEqProofs only[oS.d,J1,J2,J3,J4,J5,J6,J7,J8,↓reduceIte,reduceCtorEq,hc,hsh,sc3,hkb,hl4,wg0 (hl4 _),wgk (hl4 _),ws0 (hl4 _),wsk (hl4 _),bY (hl4 _),kr3,gc3];have hFu:(Fj l.length).mergeSort (fun x y=>decide (x≤y))=dH (w2.nums.drop ms.length):=by
       have e6:Fj l.length=(w2.nums.drop ms.length).filter fun k=>decide (0≤k):=by rw[hFj];simp only;rw[kq6 (by rw[kx9];omega)]
       rw[e6];exact j74 fun i j k hi hj h0=>by
        rw[kv4]at hi hj;have:=hwk.1.1 _ _ k hi hj h0;omega
      have hFl:(Fj l.length).length≤l.length:=by
       rw[hFj];exact kD2 (kH7 _ _) (by rw[kt3];omega)
      have hso:VC kp8 166 [.one (.own 0 (Fj l.length).length (Fj l.length).length)] [.arr false 1 (Fj l.length).length (nums (Fj l.length))] fun r h'=>r = .tup []∧h'=[.arr false 1 (Fj l.length).length (nums (dH (w2.nums.drop ms.length)))]:=by
       have:=jf2 (Fj l.length).length (Fj l.length) (by omega);rw[hFu]at this;exact this
      have hul:(dH (w2.nums.drop ms.length)).length=(Fj l.length).length:=by rw[←hFu];exact kH5 _
      refine bJ [p+1] hso rfl (by simp[cE,bP,bT,idx]) (by simp[bA,wgk (hl4 _),bD]) ?_;rintro _ _ ⟨rfl,rfl⟩;refine⟨.tup [],st H3 (cn c fr w2.next (bdL b2 p ms.length) (mx l.length) (A++l) w2.nums)++[arO b2 (mx l.length),.arr false 1 (Fj l.length).length (nums (dH (w2.nums.drop ms.length)))],by simp[mE,hJ,hJ.renVs,jN,bD,dN,dM,mD,kU,idx,eB,eV,wsk (hl4 _)],?_⟩;simp -implicitDefEqProofs only[oS.d,J1,J2,J3,J4,J5,J6,J7,J8,↓reduceIte,reduceCtorEq,hl4,hl];have hX:(H.set a aI.dead).length=q:=by rw[ku4,hq]
      have e7:H3=(H.set a .dead).set o O1++(kw8 l.length aI.dead++[arO (bi l.length) (mx l.length)]).set l.length .dead:=by
       rw[hH3,wsk hX,wsl hX (by omega)]
      have e8:mx l.length=ms++(kt4 l.length).map (q+·):=by rw[hmx]
      obtain⟨b3,hb3,hbd3,hwk3⟩:=j72 (b:=b2) (ms:=ms) (ns:=(kt4 l.length).map (q+·)) (by rw[←e8];exact hb2);have hX2:((H.set a aI.dead).set o O1).length=q:=by rw[ku4,hX]
      obtain⟨rest,hrl,hst2⟩:=j71 (H0:=(H.set a .dead).set o O1) (r:=(kw8 l.length aI.dead++[arO (bi l.length) (mx l.length)]).set l.length .dead) (c:=c) (fr:=fr) (nx:=w2.next) (bd:=bdL b2 p ms.length) (ms:=ms) (ns:=(kt4 l.length).map (q+·)) (A:=A++l) (N:=w2.nums) (fun m hm=>by
       obtain⟨j,hj,rfl⟩:=ky3.1 hm;omega)
      simp only[ku4,kq3,List.length_replicate,kr4,kr7]at hrl;have hAt:(A++l).take ms.length=A:=by rw[←hR.lA];simp
      rw[hAt]at hst2;rw[e8,e7,hst2,hbd3 p ms.length,kr3];have hc4:Clo q ((H.set a .dead).set o O1):=fun x hx=>by
       rcases kv8 hx with hx|hx
       ·exact hcd x hx
       ·subst hx;exact hq▸hO1
      refine zr8 [] (wid q [l.length+1]) (h2:=st ((H.set a .dead).set o O1) (cn c fr w2.next (bdL b3 p ms.length) ms A (w2.nums.take ms.length))++(rest++[arO b3 ms,.arr false 1 (Fj l.length).length (nums (dH (w2.nums.drop ms.length)))])) (vs:=[.one (.own (p+1) (Fj l.length).length (Fj l.length).length)]) rfl rfl (ko0 _) (zL8 (ko1 _) (zL8 (ko1 _) ⟨hwk3,kn5 _,trivial⟩)) (pD hX2 hc4 rfl (bd':=bdL b3 q ms.length) ?_ (t1:=[arO b3 ms]) ?_ (r':=.one (.d (.sl (nums (dH (w2.nums.drop ms.length)))))) ?_) ⟨rfl,b3,hb3,by rw[hq]⟩
      ·rw[show p=q+(l.length+1)by omega];exact gT (j':=0) (by simp[idx])
      ·have:(rest++[arO b3 ms,aI.arr false 1 (Fj l.length).length (nums (dH (w2.nums.drop ms.length)))])[l.length+1]?=some (arO b3 ms):=by
        rw[kr5 (by omega),hrl];simp
       simp only[bA,this,sL hmq]
      ·have hgo:(st ((H.set a .dead).set o O1) (cn c fr w2.next (bdL b3 p ms.length) ms A (w2.nums.take ms.length))++(rest++[arO b3 ms,aI.arr false 1 (Fj l.length).length (nums (dH (w2.nums.drop ms.length)))]))[q+(l.length+2)]?=some (.arr false 1 (Fj l.length).length (nums (dH (w2.nums.drop ms.length)))):=by
        rw[wgk ((cD _ _).trans hX2),kr5 (by omega),hrl];simp
       have hlo:=j57 (js:=[l.length+1]) (len:=(Fj l.length).length) (by simp[idx]) hgo;have htk2:(nums (dH (w2.nums.drop ms.length))).take (Fj l.length).length=nums (dH (w2.nums.drop ms.length)):=kq6 (by rw[bU];omega);rw[htk2]at hlo;rw[show p+1=q+(l.length+2)by omega];simp only[dA,cF,bP,hlo,kt9]
end Go.Vt.Tryz
