import Derived.Test.YtdabfkmhkoppcaaGreatDoorVtD13
import Derived.Test.YtdabfkmhkoppcaaGreatDoorVtA1
set_option linter.all false
set_option maxHeartbeats 2000000
set_option maxRecDepth 100000
open Int renaming le_refl→km9,le_trans→km0,natCast_nonneg→kd8,toNat_natCast→kd9
open List renaming append_assoc→kf1,append_nil→ki0,cons_append→kg6,drop_eq_getElem_cons→kl9,drop_of_length_le→kh2,drop_zero→kj7,foldl_cons→kq5,getD_eq_getElem?_getD→kj0,getElem?_append_left→kf7,getElem?_cons_succ→kf9,getElem?_cons_zero→kf5,getElem?_eq_getElem→ke7,getElem?_eq_some_iff→kd6,getElem?_map→ke6,getElem?_set_ne→kh7,length_append→ke1,length_cons→kf6,length_eq_zero_iff→ki3,length_map→ke9,length_nil→kg0,length_reverse→ks4,length_take→kg2,map_cons→ke5,map_nil→ke8,mem_append→kh1,mem_cons→kg9,mem_of_getElem?→kd7,mem_of_mem_drop→kp6,mem_of_mem_take→kk1,mem_singleton→ki8,nil_append→kh0,replicate→kj5,reverse_append→ko2,reverse_cons→km4,reverse_reverse→ko4,set_append_right→kk5,take_add_one→ki7,take_append_drop→ki5,take_length→ki1,take_of_length_le→ke0,take_succ_cons→ki2,take_zero→kj3,zipWith_append→kv9
open Nat renaming le_refl→kf2,lt_or_ge→kf3,one_mul→ky0,reduceAdd→kg8,reduceBEq→kk6,zero_le→kg1,zero_mul→ky7
open Option renaming getD_some→kp0,toList_some→kk7
open Go.Proofs.Tryz renaming prog→kd5
open Go.Vt.aA renaming funs→ke2,sigs→ke4,subs→ke3
open Go.Vt.aG renaming encs→kf0
open Go.Vt.aJ renaming renLs→kg3
open Go.Vt renaming eR→J0,mkV→J1
open Nat renaming reduceBEq→J2,reduceLeDiff→J5,reduceAdd→J6,reduceMul→J7
namespace Go.Vt.Tryz
open Go.Proofs Go.Vt.Al
theorem z31 (l:List Int) (n:Int) (hl:l.length<1000000000):VC kd5 255 [.one (.d (.sl (nums l))),.one (.d (.int .i64 n))] [] fun r h'=>r = .one (.d (.bool (decide (n∈l))))∧h'=[]:=by
 refine aS aR zY8 (by simp) ?_;show vwp kd5 0 xX _ [(0,.one (.d (.sl (nums l)))),(1,.one (.d (.int .i64 n)))] [];conv in xX=>cbv
 rw[aO];simp -implicitDefEqProofs only[oS.d];refine bC (α:=Nat) (fun i=>[(5,.one (.d (.int .i64 i))),(0,.one (.d (.sl (nums l)))),(1,.one (.d (.int .i64 n)))]) (fun _=>[])
  (fun i=>i≤l.length∧n∉l.take i) (fun i=>l.length-i) 0
  (aL [] rfl rfl rfl rfl) ⟨kg1 _,by simp⟩ ?_
 rintro i ⟨hi,hn⟩;have hw:=bJ (a:=i) rfl (by omega);rcases kf3 i l.length with h|h
 ·have hc:((i:Int)<(l.length:Int))=True:=by simp;omega
  obtain⟨u,hu⟩:=bA h;have hg:=eL hu;by_cases he:u=n
  ·have he2:(u=n)=True:=by simp[he]
   simp -implicitDefEqProofs only[oS.d,J1,J2,↓reduceIte,reduceCtorEq,hc,hg,he2,kd8,kd9,bW];apply aI [];rfl;rfl;have:n∈l:=he▸kd7 hu;exact⟨by simp[this],rfl⟩
  ·have he2:(u=n)=False:=by simp[he]
   simp -implicitDefEqProofs only[oS.d,J1,J2,↓reduceIte,reduceCtorEq,hc,hg,he2,hw,kd8,kd9,bW];refine⟨i+1,⟨by omega,?_⟩,by omega,?_⟩
   ·rw[ki7,hu];simp only[kk7,kh1,ki8,not_or];exact⟨hn,fun g=>he g.symm⟩
   ·exact(aL [] rfl rfl rfl rfl)
 ·have hc:((i:Int)<(l.length:Int))=False:=by simp;omega
  simp -implicitDefEqProofs only[oS.d,J2,↓reduceIte,hc,bW];apply aI [];rfl;rfl;rw[ke0 h]at hn;exact⟨by simp[hn],rfl⟩
theorem jU0 (v:Nat) (l:List Int) (n:Int) (hl:l.length<1000000000):VC kd5 255 [.one (.own 0 v l.length),.one (.d (.int .i64 n))] [.arr false 1 v (nums l)] fun r h'=>r = .one (.d (.bool (decide (n∈l))))∧h'=[.arr false 1 v (nums l)]:=by
 refine aS aR zY8 (by simp) ?_;show vwp kd5 1 xX _ [(0,.one (.own 0 v l.length)),(1,.one (.d (.int .i64 n)))] [.arr false 1 v (nums l)];conv in xX=>cbv
 rw[aO];simp -implicitDefEqProofs only[oS.d];refine bC (α:=Nat) (fun i=>[(5,.one (.d (.int .i64 i))),(0,.one (.own 0 v l.length)),(1,.one (.d (.int .i64 n)))]) (fun _=>[.arr false 1 v (nums l)])
  (fun i=>i≤l.length∧n∉l.take i) (fun i=>l.length-i) 0
  (aL [0] rfl rfl rfl rfl) ⟨kg1 _,by simp⟩ ?_
 rintro i ⟨hi,hn⟩;have hw:=bJ (a:=i) rfl (by omega);rcases kf3 i l.length with h|h
 ·have hc:((i:Int)<(l.length:Int))=True:=by simp;omega
  obtain⟨u,hu⟩:=bA h;have hg:=eL hu;by_cases he:u=n
  ·have he2:(u=n)=True:=by simp[he]
   simp -implicitDefEqProofs only[oS.d,J1,J2,↓reduceIte,reduceCtorEq,hc,hg,he2,kd8,kd9];apply aI [0];rfl;rfl;have:n∈l:=he▸kd7 hu;exact⟨by simp[this],rfl⟩
  ·have he2:(u=n)=False:=by simp[he]
   simp -implicitDefEqProofs only[oS.d,J1,J2,↓reduceIte,reduceCtorEq,hc,hg,he2,hw,kd8,kd9];refine⟨i+1,⟨by omega,?_⟩,by omega,?_⟩
   ·rw[ki7,hu];simp only[kk7,kh1,ki8,not_or];exact⟨hn,fun g=>he g.symm⟩
   ·exact(aL [0] rfl rfl rfl rfl)
 ·have hc:((i:Int)<(l.length:Int))=False:=by simp;omega
  simp -implicitDefEqProofs only[oS.d,J2,↓reduceIte,hc];apply aI [0];rfl;rfl;rw[ke0 h]at hn;exact⟨by simp[hn],rfl⟩
theorem z32 {n:Int}:∀{a b:List Int},(∀x∈a,n<x)→bub n (a++b)=a++bub n b
 |[],_,_=>rfl
 |x::a,b,h=>by
  rw[kg6,bub,if_pos (h x (by simp)),z32 (fun y hy=>h y (by simp[hy]))];rfl
theorem ze6 {l:List Int} {n:Int} (hn:n∉l) {k:Nat} (h1:∀x∈l.drop k,n<x) (h2:∀y,0<k→l[k-1]?=some y→¬n<y) (hk:k≤l.length):l.take k++n::l.drop k=dS l n:=by
 unfold dS;rw[if_neg hn];conv=>rhs;rw[←ki5 k l,ko2]
 rw[z32 (fun x hx=>h1 x (List.mem_reverse.1 hx)),ko2,ko4];have hb:bub n (l.take k).reverse=n::(l.take k).reverse:=by
  cases k with
  |zero=>rfl
  |succ k=>
   obtain⟨y,hy⟩:∃y,l[k]?=some y:=⟨l[k],ke7 (by omega)⟩;rw[ki7,hy];simp only[kk7,ko2,km4,List.reverse_nil,kh0,kg6,bub];rw[if_neg (h2 y (by omega) (by simpa using hy))]
 rw[hb,km4,ko4,kf1];rfl
theorem z33 {l:List Int} {n:Int} {k:Nat} (hk:k≤l.length):(l.take k++n::l.drop k)[k]?=some n:=by
 rw[List.getElem?_append_right (by simp;omega)];simp[Nat.min_eq_left hk]
theorem z34 {l:List Int} {n y:Int} {k:Nat} (hk:k<l.length) (hy:l[k]?=some y):(l.take (k+1)++n::l.drop (k+1))[k]?=some y:=by
 rw[kf7 (by simp;omega),List.getElem?_take_of_lt (by omega)];exact hy
theorem z35 {l:List Int} {n y:Int} {k:Nat} (hk:k<l.length) (hy:l[k]?=some y):((l.take (k+1)++n::l.drop (k+1)).set (k+1) y).set k n=l.take k++n::l.drop k:=by
 have e1:l.take (k+1)=l.take k++[y]:=by rw[ki7,hy];rfl
 have e2:l.drop k=y::l.drop (k+1):=by
  rw[kl9 hk];have:l[k]=y:=by rw[ke7 hk]at hy;exact Option.some.inj hy
  rw[this]
 have hlen:(l.take k).length=k:=by simp;omega
 rw[e1,e2,kf1];generalize l.drop (k+1)=q;generalize l.take k=p at hlen;subst hlen;simp only[kg6,kh0];rw[kk5 _ _ (by omega),kk5 _ _ (by omega)];simp
theorem ze7 {l:List Int} {i:Nat} {n:Int}:(nums l).set i [.int .i64 n]=nums (l.set i n):=by unfold nums;rw[List.map_set]
theorem jU1 (l:List Int) (n:Int) (hl:l.length<1000000000):VC kd5 206 [.one (.d (.sl (nums l))),.one (.d (.int .i64 n))] [] fun r h'=>r = .one (.d (.sl (nums (dS l n))))∧h'=[]:=by
 have hh:=z31 l n hl;by_cases hn:n∈l
 ·rw[show decide (n∈l)=true from by simp[hn]]at hh;refine aS aR zc8 (by simp) ?_;show vwp kd5 0 pE _ [(0,.one (.d (.sl (nums l)))),(1,.one (.d (.int .i64 n)))] [];conv in pE=>cbv
  rw[aO];simp -implicitDefEqProofs only[oS.d,J2];refine aQ [] hh rfl rfl rfl rfl ?_;simp -implicitDefEqProofs only[oS.d,J2];apply aI [];rfl;rfl;exact⟨by unfold dS;rw[if_pos hn],rfl⟩
 rw[show decide (n∈l)=false from by simp[hn]]at hh;have ha:((nums l).all fun e=>e.length == 1)=true:=by simp[nums]
 have hm1:l.length*8≤aM:=by unfold aM;omega
 have hm2:l.length≤aM:=by unfold aM;omega
 have hm3:(l.length+1)*8≤aM:=by unfold aM;omega
 have hm4:l.length+1≤aM:=by unfold aM;omega
 refine aS aR zc8 (by simp) ?_;show vwp kd5 0 pE _ [(0,.one (.d (.sl (nums l)))),(1,.one (.d (.int .i64 n)))] [];conv in pE=>cbv
 rw[aO];simp -implicitDefEqProofs only[oS.d,J2];refine aQ [] hh rfl rfl rfl rfl ?_;have hw0:IntKind.i64.wrap (((l.length+1:Nat):Int)-1)=(l.length:Int):=lM (a:=l.length+1) (c:=l.length) rfl (by omega);have ht:(nums l).take l.length=nums l:=ke0 (by rw[bW];exact kf2 _);simp -implicitDefEqProofs only[oS.d,J2,J5,J6,↓reduceIte,reduceCtorEq,bW,ha,hm1,hm2,hm3,hm4,hw0,ht,ky7,kg1,ky0];have e0:nums l++[[D.int IntKind.i64 n]]=nums (l.take l.length++n::l.drop l.length):=by simp[nums]
 rw[e0];refine bC (α:=Nat) (fun k=>[(6,.one (.d (.int .i64 k))),(5,.one (.own 0 2 (l.length+1)))]) (fun k=>[.arr false 1 2 (nums (l.take k++n::l.drop k))])
  (fun k=>k≤l.length∧∀x∈l.drop k,n<x) (fun k=>k) l.length
  (aL [0] rfl rfl rfl rfl) ⟨kf2 _,by simp⟩ ?_
 rintro k ⟨hk,hx⟩;have hlen:(nums (l.take k++n::l.drop k)).length=l.length+1:=by rw[bW];simp;omega
 rcases k with _|j
 ·have hc:((0:Int)<((0:Nat):Int))=False:=by simp
  simp -implicitDefEqProofs only[oS.d,J2,↓reduceIte,hc];apply aI [];rfl;rfl;refine⟨?_,rfl⟩;have hput:=ze6 hn hx (fun _ h=>absurd h (by omega)) (by omega);simp only[kj3,kj7,kh0]at hput hlen;rw[ke0 (by rw[hlen];exact kf2 _),hput]
 ·have hc:((0:Int)<((j+1:Nat):Int))=True:=by simp only[eq_iff_iff,iff_true];omega
  obtain⟨y,hy⟩:=bA (l:=l) (i:=j) (by omega);have w1:IntKind.i64.wrap (((j+1:Nat):Int)-1)=(j:Int):=lM (a:=j+1) (c:=j) rfl (by omega);have hg1:=eL (z33 (n:=n) hk);have hg2:=eL (z34 (n:=n) (by omega) hy);have l1:((j+1:Nat):Int)<((l.length+1:Nat):Int):=by omega
  have l2:(j:Int)<((l.length+1:Nat):Int):=by omega
  by_cases hny:n<y
  ·have hd:(n<y)=True:=by simp[hny]
   have hg3:((nums (l.take (j+1)++n::l.drop (j+1))).set (j+1) [D.int IntKind.i64 y])[j]?=some [.int .i64 y]:=by
    rw[kh7 (by omega)];exact hg2
   simp -implicitDefEqProofs only[oS.d,J1,J2,↓reduceIte,reduceCtorEq,hc,w1,hg1,hg2,hg3,l1,l2,hd,kd8,kd9];refine⟨j,⟨by omega,?_⟩,by omega,?_⟩
   ·intro x hxx;rw[kl9 (by omega)]at hxx;rcases kg9.1 hxx with rfl|h
    ·rw[ke7 (by omega)]at hy;rw[Option.some.inj hy];exact hny
    ·exact hx x h
   ·rw[ze7,ze7,z35 (by omega) hy];exact(aL [0] rfl rfl rfl rfl)
  ·have hd:(n<y)=False:=by simp[hny]
   simp -implicitDefEqProofs only[oS.d,J1,J2,↓reduceIte,reduceCtorEq,hc,w1,hg1,hg2,l1,l2,hd,kd8,kd9];apply aI [];rfl;rfl;refine⟨?_,rfl⟩;rw[ke0 (by rw[hlen];exact kf2 _),ze6 hn hx (fun z _ hz=>by rw[show j+1-1=j from rfl,hy]at hz;cases hz;exact hny) (by omega)]
theorem jU2 (v:Nat) (l:List Int) (n:Int) (hl:l.length<1000000000):VC kd5 206 [.one (.own 0 v l.length),.one (.d (.int .i64 n))] [.arr false 1 v (nums l)] fun r h'=>(n∈l∧r = .one (.own 0 v l.length)∧h'=[.arr false 1 v (nums l)])∨(n∉l∧r = .one (.own 1 2 (l.length+1))∧h'=[.arr false 1 v (nums l),.arr false 1 2 (nums (dS l n))]):=by
 have hh:=jU0 v l n hl;by_cases hn:n∈l
 ·rw[show decide (n∈l)=true from by simp[hn]]at hh;refine aS aR zc8 (by simp) ?_;show vwp kd5 1 pE _ [(0,.one (.own 0 v l.length)),(1,.one (.d (.int .i64 n)))] [.arr false 1 v (nums l)];conv in pE=>cbv
  rw[aO];simp -implicitDefEqProofs only[oS.d,J2];refine aQ [0] hh rfl rfl rfl rfl ?_;simp -implicitDefEqProofs only[oS.d,J2,↓reduceIte];apply aI [0];rfl;rfl;exact .inl ⟨hn,rfl,rfl⟩
 rw[show decide (n∈l)=false from by simp[hn]]at hh;have ha:((nums l).all fun e=>e.length == 1)=true:=by simp[nums]
 have hm1:l.length*8≤aM:=by unfold aM;omega
 have hm2:l.length≤aM:=by unfold aM;omega
 have hm3:(l.length+1)*8≤aM:=by unfold aM;omega
 have hm4:l.length+1≤aM:=by unfold aM;omega
 refine aS aR zc8 (by simp) ?_;show vwp kd5 1 pE _ [(0,.one (.own 0 v l.length)),(1,.one (.d (.int .i64 n)))] [.arr false 1 v (nums l)];conv in pE=>cbv
 rw[aO];simp -implicitDefEqProofs only[oS.d,J2];refine aQ [0] hh rfl rfl rfl rfl ?_;have hw0:IntKind.i64.wrap (((l.length+1:Nat):Int)-1)=(l.length:Int):=lM (a:=l.length+1) (c:=l.length) rfl (by omega);have ht:(nums l).take l.length=nums l:=ke0 (by rw[bW];exact kf2 _);simp -implicitDefEqProofs only[oS.d,J2,J5,J6,↓reduceIte,reduceCtorEq,bW,ha,hm1,hm2,hm3,hm4,hw0,ht,ky7,kg1,ky0];have e0:nums l++[[D.int IntKind.i64 n]]=nums (l.take l.length++n::l.drop l.length):=by simp[nums]
 rw[e0];refine bC (α:=Nat) (fun k=>[(6,.one (.d (.int .i64 k))),(5,.one (.own 1 2 (l.length+1)))]) (fun k=>[.arr false 1 v (nums l),.arr false 1 2 (nums (l.take k++n::l.drop k))])
  (fun k=>k≤l.length∧∀x∈l.drop k,n<x) (fun k=>k) l.length
  (aL [0,1] rfl rfl rfl rfl) ⟨kf2 _,by simp⟩ ?_
 rintro k ⟨hk,hx⟩;have hlen:(nums (l.take k++n::l.drop k)).length=l.length+1:=by rw[bW];simp;omega
 rcases k with _|j
 ·have hc:((0:Int)<((0:Nat):Int))=False:=by simp
  simp -implicitDefEqProofs only[oS.d,J2,↓reduceIte,hc];apply aI [0,1];rfl;rfl;exact .inr ⟨hn,rfl,by rw[←ze6 hn hx (fun _ h=>absurd h (by omega)) (by omega)];rfl⟩
 ·have hc:((0:Int)<((j+1:Nat):Int))=True:=by simp only[eq_iff_iff,iff_true];omega
  obtain⟨y,hy⟩:=bA (l:=l) (i:=j) (by omega);have w1:IntKind.i64.wrap (((j+1:Nat):Int)-1)=(j:Int):=lM (a:=j+1) (c:=j) rfl (by omega);have hg1:=eL (z33 (n:=n) hk);have hg2:=eL (z34 (n:=n) (by omega) hy);have l1:((j+1:Nat):Int)<((l.length+1:Nat):Int):=by omega
  have l2:(j:Int)<((l.length+1:Nat):Int):=by omega
  by_cases hny:n<y
  ·have hd:(n<y)=True:=by simp[hny]
   have hg3:((nums (l.take (j+1)++n::l.drop (j+1))).set (j+1) [D.int IntKind.i64 y])[j]?=some [.int .i64 y]:=by
    rw[kh7 (by omega)];exact hg2
   simp -implicitDefEqProofs only[oS.d,J1,J2,↓reduceIte,reduceCtorEq,hc,w1,hg1,hg2,hg3,l1,l2,hd,kd8,kd9];refine⟨j,⟨by omega,?_⟩,by omega,?_⟩
   ·intro x hxx;rw[kl9 (by omega)]at hxx;rcases kg9.1 hxx with rfl|h
    ·rw[ke7 (by omega)]at hy;rw[Option.some.inj hy];exact hny
    ·exact hx x h
   ·rw[ze7,ze7,z35 (by omega) hy];exact(aL [0,1] rfl rfl rfl rfl)
  ·have hd:(n<y)=False:=by simp[hny]
   simp -implicitDefEqProofs only[oS.d,J1,J2,↓reduceIte,reduceCtorEq,hc,w1,hg1,hg2,l1,l2,hd,kd8,kd9];apply aI [0,1];rfl;rfl;exact .inr ⟨hn,rfl,by rw[ze6 hn hx (fun z _ hz=>by rw[show j+1-1=j from rfl,hy]at hz;cases hz;exact hny) (by omega)]⟩
theorem VC.into {P:Program} {f:FuncId} {avs:List V} {sz ver v2 v3 len:Nat} {xs xs2:List (List D)} {Post Post':V→aB→Prop} (hv:ver<v3) (hc:VC P f avs [.arr false sz ver xs] Post)
  (hp:∀r h',Post r h'→Post' r h'∨(r = .one (.own 1 v2 len)∧h'=[.arr false sz ver xs,.arr false sz v2 xs2]∧Post' (.one (.own 0 v3 len)) [.arr false sz v3 xs2])):VC P f avs [.arr false sz ver xs] Post':=by
 refine⟨hc.1,fun w μ args H hl ha=>(hc.2 w μ args H hl ha).mono ?_⟩;rintro e w' ⟨r,x,h',μ',e1,p,H',R,g⟩;rcases hp r h' p with q|⟨rfl,rfl,q⟩
 ·exact⟨r,x,h',μ',e1,q,H',R,g⟩
 have hlv:∀b,Lv (μ'.put 0 (μ' 1)) [.arr false sz v3 xs2] b→Lv μ' [.arr false sz ver xs,.arr false sz v2 xs2] b:=by
  rintro b ⟨id,o,h1,h2,h3⟩;rcases id with _|id
  ·exact⟨1,_,rfl,rfl,by rw[kc1]at h3;exact h3⟩
  ·simp at h1
 have hmu:∀b,Mut (μ'.put 0 (μ' 1)) [.arr false sz v3 xs2] b→Mut μ' [.arr false sz ver xs,.arr false sz v2 xs2] b:=by
  rintro b (h|h)
  ·exact .inl (hlv b h)
  ·exact .inr h
 refine⟨_,x,[.arr false sz v3 xs2],μ'.put 0 (μ' 1),e1,q,?_,?_,?_⟩
 ·refine⟨?_,?_,?_,?_,H'.old,?_⟩
  ·intro id ty cells h;rcases id with _|id<;>simp at h
  ·intro id ty fz s v ys h;rcases id with _|id
   ·simp at h;obtain⟨rfl,rfl,rfl,rfl,rfl⟩:=h;rw[kc1];rcases H'.arr 1 (ty:=none) false sz v2 xs2 rfl with h1|⟨b,cs,T,h1,h2,h3,h4,h5,h6⟩
    ·exact .inl h1
    ·refine .inr ⟨b,cs,T,h1,h2,h3,h4,h5,fun i j e y g1 g2=>?_⟩;obtain⟨u,k1,k2⟩:=h6 i j e y g1 g2;exact⟨u,k1,k2.step (fun _ _ _=>rfl) (fun b hb=>.inl (hmu b hb))⟩
   ·simp at h
  ·intro i j o o' b h1 h2 _ _ _ _;rcases i with _|i
   ·rcases j with _|j
    ·rfl
    ·simp at h2
   ·simp at h1
  ·intro i o b h1 h2 h3;rcases i with _|i
   ·rw[kc1]at h3;exact H'.off 1 _ b rfl rfl h3
   ·simp at h1
  ·intro id o b h1 h2;rcases id with _|id
   ·simp at h1;subst h1;trivial
   ·simp at h1
 ·cases R with
  |one h1 h2=>
   refine .one h1 ?_;cases h2 with
   |own g1 g2 g3 g4 g5 g6=>
    simp at g1;obtain⟨rfl,rfl,rfl,rfl⟩:=g1;exact .own (ty:=none) (fz:=false) (sz:=sz) (xs:=xs2) rfl g2 (by rw[kc1];exact g3) g4 g5 g6
   |ownNil g1 g2=>exact .ownNil (ty:=none) (fz:=false) (sz:=sz) (xs:=xs2) rfl (by rw[kc1];exact g2)
   |ownOld g1 g2=>
    simp at g1;omega
   |ownDead g1=>simp at g1
 ·refine⟨g.os,g.tape,g.output,g.size,g.out,g.block,g.shape,fun b hb=>g.fresh b (hlv b hb),kf2 _,?_,?_,?_⟩
  ·intro id ty cells h;rcases id with _|id<;>simp at h
  ·intro id ty fz s v ys h;rcases id with _|id
   ·simp at h;obtain⟨rfl,rfl,rfl,rfl,rfl⟩:=h;exact .inr ⟨false,sz,v3,xs2,none,rfl,.inr hv⟩
   ·simp at h
  ·intro id h;rcases id with _|id<;>simp at h
theorem z36 {n:Int}:∀l:List Int,(bub n l).length=l.length+1
 |[]=>rfl
 |y::r=>by unfold bub;split<;>simp[z36 r]
def fv (l:List Int):Nat:=l.length
theorem jU3 (l:List Int) (n:Int) (hl:l.length<1000000000):VC kd5 206 [.one (.own 0 (fv l) l.length),.one (.d (.int .i64 n))] [.arr false 1 (fv l) (nums l)] fun r h'=>
  r = .one (.own 0 (fv (dS l n)) (dS l n).length)∧h'=[.arr false 1 (fv (dS l n)) (nums (dS l n))]:=by
 refine VC.into (v3:=l.length+1) (v2:=2) (len:=l.length+1) (xs2:=nums (dS l n)) (by unfold fv;omega) (jU2 (fv l) l n hl) ?_;rintro r h' (⟨hn,rfl,rfl⟩|⟨hn,rfl,rfl⟩)
 ·refine .inl ?_;rw[show dS l n=l by unfold dS;rw[if_pos hn]];exact⟨rfl,rfl⟩
 ·have e:(dS l n).length=l.length+1:=by unfold dS;rw[if_neg hn,ks4,z36,ks4]
  refine .inr ⟨rfl,rfl,?_⟩;unfold fv;rw[e];exact⟨rfl,rfl⟩
def rws (A N:List Int):List (List D):=List.zipWith (fun a k=>[.int .i64 a,.int .i64 k]) A N
theorem z37 {A N:List Int} (h:N.length=A.length):(rws A N).length=A.length:=by simp[rws,h]
theorem zE1 {A N:List Int} {J:List (List D)} {i:Nat} {a k:Int} (h1:A[i]?=some a) (h2:N[i]?=some k):(rws A N++J)[i]?=some [.int .i64 a,.int .i64 k]:=by
 have h:(rws A N)[i]?=some [.int .i64 a,.int .i64 k]:=by simp[rws,List.getElem?_zipWith,h1,h2]
 rw[kf7 (kd6.1 h).1];exact h
theorem z38 {a k:Int}:∀{A N:List Int} {J:List (List D)} {i:Nat},N.length=A.length→A[i]?=some a→(rws A N++J).set i [.int .i64 a,.int .i64 k]=rws A (N.set i k)++J
 |x::A,y::N,J,0,h,h1=>by
  have:x=a:=by simpa using h1
  subst this;rfl
 |x::A,y::N,J,i+1,h,h1=>by
  have:=z38 (k:=k) (J:=J) (show N.length=A.length by simpa using h) (show A[i]?=some a by simpa using h1);simp only[rws,List.zipWith_cons_cons,kg6,List.set_cons_succ]at this ⊢;rw[this]
theorem jU4 {A N:List Int} {a k:Int} (h:N.length=A.length):rws (A++[a]) (N++[k])=rws A N++[[.int .i64 a,.int .i64 k]]:=by
 unfold rws;rw[kv9 h.symm];rfl
theorem jU5:∀(n:Nat) (t:List Int) (k:Int),t.length≤n→k≤cW t k:=by
 intro n;induction n with
 |zero=>
  intro t k h;have:t=[]:=ki3.1 (by omega);subst this;rw[uR (by simp)];exact km9 _
 |succ n ih=>
  intro t k h;by_cases hk:k∈t
  ·rw[cW,dif_pos hk];have:=ih (t.erase k) (k+1) (by rw[List.length_erase_of_mem hk];omega);omega
  ·rw[uR hk];exact km9 _
theorem zE2 (t:List Int) (k:Int):k≤cW t k:=jU5 t.length t k (kf2 _)
def aF:List Int→List Int→Int→Int
 |a::r,b::q,n=>if a=n then b else aF r q n
 |[],_,n=>n
 |_::_,[],n=>n
def wb (fr to tk:List Int) (v:Nat) (A:List Int) (w:WS):aN:=.box [.own 1 v A.length,.d (.sl (nums fr)),.d (.sl (nums to)),.d (.int .i64 w.next),.d (.sl (nums tk)),.own 2 (fv w.free) w.free.length]
def wa (v:Nat) (A:List Int) (w:WS) (J:List (List D)):aN:=.arr false 2 v (rws A w.nums++J)
def wf (w:WS):aN:=.arr false 1 (fv w.free) (nums w.free)
theorem jU6 {tk A:List Int} {sb:Int→Int} {n:Int} {w:WS}:(cG tk sb A n w).2.free.length≤w.free.length+1:=by
 unfold cG;cases cE A n with
 |some i=>simp only;split<;>simp
 |none=>
  have:∀l,(bub n l).length=l.length+1:=by
   intro l;induction l with
   |nil=>rfl
   |cons y r ih=>unfold bub;split<;>simp[ih]
  simp only[dS];split
  ·simp
  ·simp[this]
theorem jU7 (fr to tk:List Int) (v:Nat) (A:List Int) (J:List (List D)) (n:Int) (w:WS) (hN:w.nums.length=A.length) (hA:A.length<1000000000) (hfr:fr.length<1000000000) (hto:to.length<1000000000) (htk:tk.length<1000000000) (hf:w.free.length<1000000000)
  (h0:0≤w.next) (hb:(cG tk (aF fr to) A n w).2.next<1000000000000000) :
  VC kd5 254 [.one (.ptr 0 0),.one (.d (.int .i64 n))] [wb fr to tk v A w,wa v A w J,wf w] fun r h'=>r = .one (.d (.int .i64 (cG tk (aF fr to) A n w).1))∧h'=[wb fr to tk v A (cG tk (aF fr to) A n w).2,wa v A (cG tk (aF fr to) A n w).2 J,wf (cG tk (aF fr to) A n w).2]:=by
 obtain⟨N,nx,fs⟩:=w;simp only at hN hf h0;simp only[wb,wa,wf];refine aS aR jI7 (by simp) ?_;show vwp kd5 3 zz2 _ [(0,.one (.ptr 0 0)),(1,.one (.d (.int .i64 n)))] [.box [.own 1 v A.length,.d (.sl (nums fr)),.d (.sl (nums to)),.d (.int .i64 nx),.d (.sl (nums tk)),.own 2 (fv fs) fs.length],.arr false 2 v (rws A N++J),.arr false 1 (fv fs) (nums fs)];conv in zz2=>cbv
 rw[aO];have w0:IntKind.i64.wrap ((A.length:Int)-1)=(A.length:Int)-1:=by rw[IntKind.wrap_i64];omega
 simp -implicitDefEqProofs only[oS.d,J1,J2,J5,J6,↓reduceIte,reduceCtorEq,w0];refine bC (α:=Nat) (fun k=>[(5,.one (.d (.int .i64 ((k:Int)-1)))),(0,.one (.ptr 0 0)),(1,.one (.d (.int .i64 n)))]) (fun _=>[.box [.own 1 v A.length,.d (.sl (nums fr)),.d (.sl (nums to)),.d (.int .i64 nx),.d (.sl (nums tk)),.own 2 (fv fs) fs.length],.arr false 2 v (rws A N++J),.arr false 1 (fv fs) (nums fs)])
  (fun k=>k≤A.length∧∀j,k≤j→A[j]?≠some n) (fun k=>k) A.length
  (aL [0,1,2] rfl rfl rfl rfl) ⟨kf2 _,fun j hj hc=>by have:=(kd6.1 hc).1;omega⟩ ?_
 rintro k ⟨hk,hl⟩;rcases k with _|j
 ·-- it is free
  have hc:((0:Int)≤((0:Nat):Int)-1)=False:=by simp only[eq_iff_iff,iff_false];omega
  have hn:cE A n=none:=kL.2 fun hm=>by
   obtain⟨j,hj⟩:=List.getElem?_of_mem hm;exact hl j (kg1 _) hj
  have hp:=jU3 fs n hf;simp -implicitDefEqProofs only[oS.d,J1,J2,J5,J6,↓reduceIte,reduceCtorEq,hc];refine aQ [2] hp rfl rfl rfl rfl ?_;simp -implicitDefEqProofs only[oS.d,J2,J5,J6,↓reduceIte,reduceCtorEq];refine bC (α:=Nat) (fun i=>[(6,.one (.d (.int .i64 i))),(0,.one (.ptr 0 0)),(1,.one (.d (.int .i64 n)))]) (fun _=>[.box [.own 1 v A.length,.d (.sl (nums fr)),.d (.sl (nums to)),.d (.int .i64 nx),.d (.sl (nums tk)),.own 2 (fv (dS fs n)) (dS fs n).length],.arr false 2 v (rws A N++J),.arr false 1 (fv (dS fs n)) (nums (dS fs n))])
   (fun i=>i≤fr.length∧i≤to.length∧aF fr to n=aF (fr.drop i) (to.drop i) n) (fun i=>fr.length-i) 0
   (aL [0,1,2] rfl rfl rfl rfl) ⟨kg1 _,kg1 _,by simp⟩ ?_
  rintro i ⟨hi1,hi2,hs⟩;have hw:=bJ (a:=i) rfl (by omega);have fin:∀q,aF fr to n=q→cG tk (aF fr to) A n ⟨N,nx,fs⟩=(q,⟨N,nx,dS fs n⟩):=fun q hq=>by unfold cG;rw[hn];simp only[hq]
  rcases kf3 i fr.length with h1|h1
  ·have e1:((i:Int)<(fr.length:Int))=True:=by simp;omega
   rcases kf3 i to.length with h2|h2
   ·have e2:((i:Int)<(to.length:Int))=True:=by simp;omega
    obtain⟨x,hx⟩:=bA h1;obtain⟨y,hy⟩:=bA h2;have gx:=eL hx;have gy:=eL hy;have dx:fr.drop i=x::fr.drop (i+1):=by
     rw[kl9 h1];rw[ke7 h1]at hx;rw[Option.some.inj hx]
    have dy:to.drop i=y::to.drop (i+1):=by
     rw[kl9 h2];rw[ke7 h2]at hy;rw[Option.some.inj hy]
    rw[dx,dy,aF]at hs;by_cases he:x=n
    ·have e3:(x=n)=True:=by simp[he]
     rw[if_pos he]at hs;simp -implicitDefEqProofs only[oS.d,J1,J2,J5,J6,↓reduceIte,reduceCtorEq,e1,e2,e3,gx,gy,bW,kd8,kd9];rw[fin y hs];apply aI [0,1,2];rfl;rfl;exact⟨rfl,rfl⟩
    ·have e3:(x=n)=False:=by simp[he]
     rw[if_neg he]at hs;simp -implicitDefEqProofs only[oS.d,J1,J2,J5,J6,↓reduceIte,reduceCtorEq,e1,e2,e3,gx,gy,hw,bW,kd8,kd9];refine⟨i+1,⟨by omega,by omega,hs⟩,by omega,?_⟩;exact(aL [0,1,2] rfl rfl rfl rfl)
   ·have e2:((i:Int)<(to.length:Int))=False:=by simp;omega
    have dy:to.drop i=[]:=kh2 h2;have hs2:aF fr to n=n:=by rw[hs,dy];cases fr.drop i<;>rfl
    simp -implicitDefEqProofs only[oS.d,J1,J2,J5,J6,↓reduceIte,reduceCtorEq,e1,e2,bW];rw[fin n hs2];apply aI [0,1,2];rfl;rfl;exact⟨rfl,rfl⟩
  ·have e1:((i:Int)<(fr.length:Int))=False:=by simp;omega
   have dx:fr.drop i=[]:=kh2 h1;have hs2:aF fr to n=n:=by rw[hs,dx];rfl
   simp -implicitDefEqProofs only[oS.d,J1,J2,J5,J6,↓reduceIte,reduceCtorEq,e1,bW];rw[fin n hs2];apply aI [0,1,2];rfl;rfl;exact⟨rfl,rfl⟩
 ·have hc:((0:Int)≤((j+1:Nat):Int)-1)=True:=by simp only[eq_iff_iff,iff_true];omega
  have hj:((j+1:Nat):Int)-1=(j:Int):=by omega
  have l1:(j:Int)<(A.length:Int):=by omega
  obtain⟨a,ha⟩:=bA (l:=A) (i:=j) (by omega);obtain⟨m,hm⟩:=bA (l:=N) (i:=j) (by omega);have hg:=zE1 (J:=J) ha hm;by_cases he:a=n
  ·subst he;have hn:cE A a=some j:=lO.2 ⟨ha,fun k hk=>hl k hk⟩;have e3:(a=a)=True:=by simp
   by_cases hneg:m<0
   ·have e4:(m<0)=True:=by simp[hneg]
    have hst:cG tk (aF fr to) A a ⟨N,nx,fs⟩=(cW tk nx,⟨N.set j (cW tk nx),cW tk nx+1,fs⟩):=by
     unfold cG;rw[hn];simp only[kj0,hm,kp0,hneg,if_true]
    rw[hst]at hb ⊢;simp only at hb ⊢;simp -implicitDefEqProofs only[oS.d,J1,J2,J5,J6,↓reduceIte,reduceCtorEq,hj,l1,hg,e4,kd8,kd9];refine bC (α:=Int) (fun x=>[(0,.one (.ptr 0 0)),(1,.one (.d (.int .i64 a))),(5,.one (.d (.int .i64 j)))]) (fun x=>[.box [.own 1 v A.length,.d (.sl (nums fr)),.d (.sl (nums to)),.d (.int .i64 x),.d (.sl (nums tk)),.own 2 (fv fs) fs.length],.arr false 2 v (rws A N++J),.arr false 1 (fv fs) (nums fs)])
     (fun x=>nx≤x∧cW tk x=cW tk nx) (fun x=>(cW tk nx-x).toNat) nx
     (aL [0,1,2] rfl rfl rfl rfl) ⟨km9 _,rfl⟩ ?_
    rintro x ⟨hx1,hx2⟩;have hle:=zE2 tk x;have hh:=z31 tk x htk;by_cases hx:x∈tk
    ·rw[show decide (x∈tk)=true from by simp[hx]]at hh;have hs:=z00 hx;have hle2:=zE2 tk (x+1);have hw:IntKind.i64.wrap (x+1)=x+1:=by rw[IntKind.wrap_i64];omega
     simp -implicitDefEqProofs only[oS.d,J1,J2,J5,J6,↓reduceIte,reduceCtorEq];refine aQ [] hh rfl rfl rfl rfl ?_;simp -implicitDefEqProofs only[oS.d,J1,J2,J5,J6,↓reduceIte,reduceCtorEq,hw];refine⟨x+1,⟨by omega,by rw[←hs,hx2]⟩,by omega,?_⟩;exact(aL [0,1,2] rfl rfl rfl rfl)
    ·rw[show decide (x∈tk)=false from by simp[hx]]at hh;have hs:=uR hx;have hx3:cW tk nx=x:=by rw[←hx2,hs]
     rw[hx3]at hb ⊢;have hw:IntKind.i64.wrap (x+1)=x+1:=by rw[IntKind.wrap_i64];omega
     have hg2:=zE1 (J:=J) (N:=N.set j x) ha (show(N.set j x)[j]?=some x from by rw[List.getElem?_set];simp;omega);have hset:=z38 (k:=x) (J:=J) hN ha;simp -implicitDefEqProofs only[oS.d,J1,J2,J5,J6,↓reduceIte,reduceCtorEq];refine aQ [] hh rfl rfl rfl rfl ?_;simp -implicitDefEqProofs only[oS.d,J1,J2,J5,J6,↓reduceIte,reduceCtorEq,l1,hg,hg2,hset,hw,kd8,kd9];apply aI [0,1,2];rfl;rfl;exact⟨rfl,rfl⟩
   ·have e4:(m<0)=False:=by simp[hneg]
    have hst:cG tk (aF fr to) A a ⟨N,nx,fs⟩=(m,⟨N,nx,fs⟩):=by
     unfold cG;rw[hn];simp only[kj0,hm,kp0,hneg,if_false]
    rw[hst];simp -implicitDefEqProofs only[oS.d,J1,J2,J5,J6,↓reduceIte,reduceCtorEq,hj,l1,hg,e4,kd8,kd9];apply aI [0,1,2];rfl;rfl;exact⟨rfl,rfl⟩
  ·have e3:(a=n)=False:=by simp[he]
   have hw:IntKind.i64.wrap ((j:Int)-1)=(j:Int)-1:=by rw[IntKind.wrap_i64];omega
   simp -implicitDefEqProofs only[oS.d,J1,J2,J5,J6,↓reduceIte,reduceCtorEq,hj,l1,hg,e3,hw,kd8,kd9];refine⟨j,⟨by omega,fun q hq hc2=>?_⟩,by omega,?_⟩
   ·rcases kf3 j q with h|h
    ·exact hl q h hc2
    ·have:q=j:=by omega
     subst this;rw[ha]at hc2;exact he (Option.some.inj hc2)
   ·exact(aL [0,1,2] rfl rfl rfl rfl)
def Bh (w w':WS) (c:Nat):Prop:=w'.nums.length=w.nums.length∧w.next≤w'.next∧w'.free.length≤w.free.length+c
theorem Bh.refl (w:WS):Bh w w 0:=⟨rfl,km9 _,kf2 _⟩
theorem Bh.trans {a b c:WS} {m n:Nat} (h1:Bh a b m) (h2:Bh b c n):Bh a c (m+n):=⟨h2.1.trans h1.1,km0 h1.2.1 h2.2.1,by have:=h1.2.2;have:=h2.2.2;omega⟩
theorem Bh.mono {a b:WS} {m n:Nat} (h:Bh a b m) (hm:m≤n):Bh a b n:=⟨h.1,h.2.1,by have:=h.2.2;omega⟩
section
variable {tk:List Int} {sb:Int→Int} {A:List Int}
theorem zE3 (n:Int) (w:WS):Bh w (cG tk sb A n w).2 1:=by
 refine⟨?_,?_,jU6⟩
 ·unfold cG;cases cE A n with
  |some i=>simp only;split<;>simp
  |none=>rfl
 ·unfold cG;cases cE A n with
  |some i=>
   simp only;split
   ·have:=zE2 tk w.next;simp only;omega
   ·exact km9 _
  |none=>exact km9 _
theorem lP:∀(l:List Ty) (w:WS),tyF.go tk sb A l w=aH (tyF tk sb A) l w
 |[],_=>rfl
 |t::r,w=>by simp only[tyF.go,aH,lP r]
theorem ze8 {α β:Type} {f:α→WS→β×WS}:∀(l r:List α) (w:WS),aH f (l++r) w=((aH f l w).1++(aH f r (aH f l w).2).1,(aH f r (aH f l w).2).2)
 |[],_,_=>rfl
 |a::l,r,w=>by simp only[kg6,aH,ze8 l r]
theorem lQ {α β:Type} {f:α→WS→β×WS} {l:List α} {i:Nat} {a:α} (h:l[i]?=some a) (w:WS):aH f (l.take (i+1)) w=((aH f (l.take i) w).1++[(f a (aH f (l.take i) w).2).1],(f a (aH f (l.take i) w).2).2):=by
 rw[ki7,h];simp only[kk7,ze8,aH]
theorem mN {α β:Type} {f:α→WS→β×WS}:∀(l:List α) (w:WS),(aH f l w).1.length=l.length
 |[],_=>rfl
 |a::l,w=>by simp only[aH,kf6,mN l]
theorem kY {α β:Type} {f:α→WS→β×WS} {c:α→Nat}:∀(l:List α),(∀a∈l,∀w,Bh w (f a w).2 (c a))→∀w,Bh w (aH f l w).2 (aT c l)
 |[],_,w=>Bh.refl w
 |a::l,h,w=>(h a (by simp) w).trans (kY l (fun b hb=>h b (by simp[hb])) _)
theorem uX {α β:Type} {f:α→WS→β×WS} {c:α→Nat} {l:List α} (h:∀a∈l,∀w,Bh w (f a w).2 (c a)) (i:Nat) (w:WS):Bh w (aH f (l.take i) w).2 (aT c l)∧(aH f (l.take i) w).2.next≤(aH f l w).2.next:=by
 have h1:=kY (f:=f) (c:=c) (l.take i) (fun a ha=>h a (kk1 ha)) w;refine⟨h1.mono (iY l i),?_⟩;conv=>rhs;rw[←ki5 i l,ze8]
 exact(kY (f:=f) (c:=c) (l.drop i) (fun a ha=>h a (kp6 ha)) _).2.1
theorem mO:∀(t:Ty) (w:WS),Bh w (tyF tk sb A t w).2 (tyn t):=by
 intro t;induction t using Ty.ind with
 |h k n l ih=>
 intro w;simp only[tyF,tyn,lP,oC];refine Bh.trans (b:=if k=fK then (cG tk sb A n w).2 else w) ?_ (kY l ih _);split
 ·exact zE3 n w
 ·exact(Bh.refl w).mono (kg1 _)
theorem zE4 (l:List Ty) (w:WS):Bh w (aH (tyF tk sb A) l w).2 (aT tyn l):=kY l (fun t _ w=>mO t w) w
theorem uY (c:Ct) (w:WS):Bh w (ctF tk sb A c w).2 (ctn c):=by
 simp only[ctF,lP,qP];exact(zE4 c.args w).mono (by omega)
end
theorem ze9 (fr to tk:List Int) (v:Nat) (A:List Int) (J:List (List D)) (hA:A.length<1000000000) (hfr:fr.length<1000000000) (hto:to.length<1000000000) (htk:tk.length<1000000000) :
  ∀(N:Nat) (t:Ty),tyn t≤N→N<100000000→∀(w:WS),w.nums.length=A.length→w.free.length+tyn t<1000000000→0≤w.next→(tyF tk (aF fr to) A t w).2.next<1000000000000000→
   VC kd5 203 [.one (.ptr 0 0),tyV t] [wb fr to tk v A w,wa v A w J,wf w] fun r h'=>r=tyV (tyF tk (aF fr to) A t w).1∧h'=[wb fr to tk v A (tyF tk (aF fr to) A t w).2,wa v A (tyF tk (aF fr to) A t w).2 J,wf (tyF tk (aF fr to) A t w).2]
 |0,.mk k n l,h,_,_,_,_,_,_=>by simp only[tyn]at h;omega
 |N+1,.mk k n l,h,hN,w,hw1,hw2,hw3,hw4=>by
  have ih:=ze9 fr to tk v A J hA hfr hto htk N;simp only[tyn,oC]at h hw2;simp only[tyF,lP]at hw4 ⊢;have hlen:=dV (f:=tyn) (fun t=>by cases t;simp[tyn]) l;have hst:=jU7 fr to tk v A J n w hw1 hA hfr hto htk (by omega) hw3;have hb1:=zE3 (tk:=tk) (sb:=aF fr to) (A:=A) n w;have hL:=fun w=>zE4 (tk:=tk) (sb:=aF fr to) (A:=A) l w;have rest:∀(w1:WS) (n1:Int),w1.nums.length=A.length→w1.free.length+aT tyn l<1000000000→0≤w1.next→(aH (tyF tk (aF fr to) A) l w1).2.next<1000000000000000→∀i u,l[i]?=some u→
    VC kd5 203 [.one (.ptr 0 0),tyV u] [wb fr to tk v A (aH (tyF tk (aF fr to) A) (l.take i) w1).2,wa v A (aH (tyF tk (aF fr to) A) (l.take i) w1).2 J,wf (aH (tyF tk (aF fr to) A) (l.take i) w1).2] fun r h'=>r=tyV (tyF tk (aF fr to) A u (aH (tyF tk (aF fr to) A) (l.take i) w1).2).1∧h'=[wb fr to tk v A (aH (tyF tk (aF fr to) A) (l.take (i+1)) w1).2,wa v A (aH (tyF tk (aF fr to) A) (l.take (i+1)) w1).2 J,wf (aH (tyF tk (aF fr to) A) (l.take (i+1)) w1).2]:=by
   intro w1 n1 h1 h2 h3 h4 i u hu;have hp:=uX (f:=tyF tk (aF fr to) A) (c:=tyn) (l:=l) (fun t _ w=>mO t w) i w1;have hp2:=uX (f:=tyF tk (aF fr to) A) (c:=tyn) (l:=l) (fun t _ w=>mO t w) (i+1) w1;have hmu:=cY (f:=tyn) (kd7 hu);have hs:=jH (f:=tyn) hu;have hle:=iY (f:=tyn) l (i+1);have hbt:=kY (f:=tyF tk (aF fr to) A) (c:=tyn) (l.take i) (fun t _ w=>mO t w) w1;rw[lQ hu]at hp2 ⊢;exact ih u (by omega) (by omega) _ (hbt.1.trans h1) (by have:=hbt.2.2;omega) (by have:=hbt.2.1;omega) (by have:=hp2.2;simp only at this;omega)
  simp only[wb,wa,wf]at hst rest ⊢;simp only[tyV,aG,ke5,ke8];refine aS aR jG0 (by simp) ?_;show vwp kd5 3 zw7 _ [(0,.one (.ptr 0 0)),(1,.agg [.d (.int .i64 k),.d (.int .i64 n),.d (.sl (kf0 l))])] [.box [.own 1 v A.length,.d (.sl (nums fr)),.d (.sl (nums to)),.d (.int .i64 w.next),.d (.sl (nums tk)),.own 2 (fv w.free) w.free.length],.arr false 2 v (rws A w.nums++J),.arr false 1 (fv w.free) (nums w.free)];conv in zw7=>cbv
  rw[aO];by_cases hk:k=6
  ·have hk1:(k=6)=True:=by simp[hk]
   have hk2:k=fK:=hk;simp only[hk2,if_true]at hw4 ⊢;have hst2:=hst (by have:=(hL (cG tk (aF fr to) A n w).2).2.1;omega);have hR:=rest (cG tk (aF fr to) A n w).2 0 (hb1.1.trans hw1) (by have:=hb1.2.2;omega) (by have:=hb1.2.1;omega) hw4;rw[←hk2];generalize cG tk (aF fr to) A n w=S at hst2 hR hw4 ⊢;obtain⟨n1,w1⟩:=S;simp only at hst2 hR hw4 ⊢;simp -implicitDefEqProofs only[oS.d,J1,J2,J5,J6,↓reduceIte,reduceCtorEq,hk1];refine aQ [0,1,2] hst2 rfl rfl rfl rfl ?_;simp -implicitDefEqProofs only[oS.d,J2,J5,J6,↓reduceIte,reduceCtorEq];have hwf:∀i,i≤l.length→(kf0 (aH (tyF tk (aF fr to) A) (l.take i) w1).1).length=i:=fun i hi=>by rw[dA,mN,kg2];omega
   refine bC (α:=Nat) (fun i=>[(6,.one (.d (.int .i64 i))),(0,.one (.ptr 0 0)),(3,.one (.ptr 3 0)),(5,.one (.ptr 5 0)),(4,.one (.ptr 4 0))])
    (fun i=>[.box [.own 1 v A.length,.d (.sl (nums fr)),.d (.sl (nums to)),.d (.int .i64 (aH (tyF tk (aF fr to) A) (l.take i) w1).2.next),.d (.sl (nums tk)),.own 2 (fv ((aH (tyF tk (aF fr to) A) (l.take i) w1).2.free)) (aH (tyF tk (aF fr to) A) (l.take i) w1).2.free.length],.arr false 2 v (rws A (aH (tyF tk (aF fr to) A) (l.take i) w1).2.nums++J),.arr false 1 (fv ((aH (tyF tk (aF fr to) A) (l.take i) w1).2.free)) (nums (aH (tyF tk (aF fr to) A) (l.take i) w1).2.free),.box [.d (.int .i64 k),.d (.int .i64 n),.d (.sl (kf0 l))],.box [.d (.int .i64 0),.d (.int .i64 0),.nils],.box [.d (.int .i64 k),.d (.int .i64 n1),.own 6 i i],.arr false 3 i (kf0 (aH (tyF tk (aF fr to) A) (l.take i) w1).1)])
    (fun i=>i≤l.length) (fun i=>l.length-i) 0
    (gE [] [(5,2,3)] [0,1,2,3,4,5,6] rfl rfl rfl rfl rfl rfl) (kg1 _) ?_
   intro i hi;have hw:=bJ (a:=i) rfl (by omega);have hl5:=hwf i hi;have htk2:(kf0 (aH (tyF tk (aF fr to) A) (l.take i) w1).1).take i=kf0 (aH (tyF tk (aF fr to) A) (l.take i) w1).1:=ke0 (by omega);rcases kf3 i l.length with h5|h5
   ·have hc:((i:Int)<(l.length:Int))=True:=by simp;omega
    obtain⟨u,hu⟩:=bA h5;have hgu:(kf0 l)[i]?=some (aG u):=by rw[dN,ke6,hu];rfl
    have iu:=hR i u hu;have hmt:=lQ (f:=tyF tk (aF fr to) A) hu w1;have e1:(tyF tk (aF fr to) A u (aH (tyF tk (aF fr to) A) (l.take i) w1).2).2=(aH (tyF tk (aF fr to) A) (l.take (i+1)) w1).2:=by rw[hmt]
    have e2:kf0 (aH (tyF tk (aF fr to) A) (l.take i) w1).1++[aG (tyF tk (aF fr to) A u (aH (tyF tk (aF fr to) A) (l.take i) w1).2).1]=kf0 (aH (tyF tk (aF fr to) A) (l.take (i+1)) w1).1:=by rw[hmt];simp[dN]
    clear hmt;generalize tyF tk (aF fr to) A u (aH (tyF tk (aF fr to) A) (l.take i) w1).2=R at iu e1 e2;obtain⟨⟨rk,rn,rl⟩,w2⟩:=R;obtain⟨uk,un,ul⟩:=u;have hcap:(i+1)*40≤aM∧i+1≤aM:=by simp[aM];omega
    simp only[tyV,aG,ke5,ke8]at hgu iu e1 e2;simp -implicitDefEqProofs only[oS.d,J1,J2,J5,J6,↓reduceIte,reduceCtorEq,hc,hgu,dA,kd8,kd9];refine aQ [0,1,2] iu rfl rfl rfl rfl ?_;simp -implicitDefEqProofs only[oS.d,J1,J2,J5,J6,J7,↓reduceIte,reduceCtorEq,hcap,htk2,hw];rw[e2];refine⟨i+1,by omega,by omega,?_⟩;exact(aL [0,1,2,3,4,5,6] rfl rfl rfl rfl)
   ·have hc:((i:Int)<(l.length:Int))=False:=by simp;omega
    have hie:i=l.length:=by omega
    subst hie;simp -implicitDefEqProofs only[oS.d,J1,J2,J5,J6,↓reduceIte,reduceCtorEq,hc,dA];apply aI [0,1,2]
    ·simp only[cX,eH,kk6,cond_true,cond_false,lH,cI,kf9,kf5,mkV,kj7,kf6,kg0,kg8,kf2,if_true,ki2,kj3];rfl
    ·first|rfl|(simp[fin,bK,bB,bR,bM,dG,bO,idx,cM,aJ,bH,kg3];first|exact⟨rfl,rfl⟩|exact⟨rfl,rfl,rfl⟩)
    rw[ki1]at htk2;rw[htk2];exact⟨rfl,rfl⟩
  ·have hk1:(k=6)=False:=by simp[hk]
   have hk2:¬k=fK:=hk;simp only[hk2,if_false]at hw4 ⊢;have hR:=rest w 0 hw1 (by omega) hw3 hw4;generalize w=w1 at *;simp -implicitDefEqProofs only[oS.d,J1,J2,J5,J6,↓reduceIte,reduceCtorEq,hk1];have hwf:∀i,i≤l.length→(kf0 (aH (tyF tk (aF fr to) A) (l.take i) w1).1).length=i:=fun i hi=>by rw[dA,mN,kg2];omega
   refine bC (α:=Nat) (fun i=>[(6,.one (.d (.int .i64 i))),(0,.one (.ptr 0 0)),(3,.one (.ptr 3 0)),(5,.one (.ptr 5 0)),(4,.one (.ptr 4 0))])
    (fun i=>[.box [.own 1 v A.length,.d (.sl (nums fr)),.d (.sl (nums to)),.d (.int .i64 (aH (tyF tk (aF fr to) A) (l.take i) w1).2.next),.d (.sl (nums tk)),.own 2 (fv ((aH (tyF tk (aF fr to) A) (l.take i) w1).2.free)) (aH (tyF tk (aF fr to) A) (l.take i) w1).2.free.length],.arr false 2 v (rws A (aH (tyF tk (aF fr to) A) (l.take i) w1).2.nums++J),.arr false 1 (fv ((aH (tyF tk (aF fr to) A) (l.take i) w1).2.free)) (nums (aH (tyF tk (aF fr to) A) (l.take i) w1).2.free),.box [.d (.int .i64 k),.d (.int .i64 n),.d (.sl (kf0 l))],.box [.d (.int .i64 0),.d (.int .i64 0),.nils],.box [.d (.int .i64 k),.d (.int .i64 n),.own 6 i i],.arr false 3 i (kf0 (aH (tyF tk (aF fr to) A) (l.take i) w1).1)])
    (fun i=>i≤l.length) (fun i=>l.length-i) 0
    (gE [] [(5,2,3)] [0,1,2,3,4,5,6] rfl rfl rfl rfl rfl rfl) (kg1 _) ?_
   intro i hi;have hw:=bJ (a:=i) rfl (by omega);have hl5:=hwf i hi;have htk2:(kf0 (aH (tyF tk (aF fr to) A) (l.take i) w1).1).take i=kf0 (aH (tyF tk (aF fr to) A) (l.take i) w1).1:=ke0 (by omega);rcases kf3 i l.length with h5|h5
   ·have hc:((i:Int)<(l.length:Int))=True:=by simp;omega
    obtain⟨u,hu⟩:=bA h5;have hgu:(kf0 l)[i]?=some (aG u):=by rw[dN,ke6,hu];rfl
    have iu:=hR i u hu;have hmt:=lQ (f:=tyF tk (aF fr to) A) hu w1;have e1:(tyF tk (aF fr to) A u (aH (tyF tk (aF fr to) A) (l.take i) w1).2).2=(aH (tyF tk (aF fr to) A) (l.take (i+1)) w1).2:=by rw[hmt]
    have e2:kf0 (aH (tyF tk (aF fr to) A) (l.take i) w1).1++[aG (tyF tk (aF fr to) A u (aH (tyF tk (aF fr to) A) (l.take i) w1).2).1]=kf0 (aH (tyF tk (aF fr to) A) (l.take (i+1)) w1).1:=by rw[hmt];simp[dN]
    clear hmt;generalize tyF tk (aF fr to) A u (aH (tyF tk (aF fr to) A) (l.take i) w1).2=R at iu e1 e2;obtain⟨⟨rk,rn,rl⟩,w2⟩:=R;obtain⟨uk,un,ul⟩:=u;have hcap:(i+1)*40≤aM∧i+1≤aM:=by simp[aM];omega
    simp only[tyV,aG,ke5,ke8]at hgu iu e1 e2;simp -implicitDefEqProofs only[oS.d,J1,J2,J5,J6,↓reduceIte,reduceCtorEq,hc,hgu,dA,kd8,kd9];refine aQ [0,1,2] iu rfl rfl rfl rfl ?_;simp -implicitDefEqProofs only[oS.d,J1,J2,J5,J6,J7,↓reduceIte,reduceCtorEq,hcap,htk2,hw];rw[e2];refine⟨i+1,by omega,by omega,?_⟩;exact(aL [0,1,2,3,4,5,6] rfl rfl rfl rfl)
   ·have hc:((i:Int)<(l.length:Int))=False:=by simp;omega
    have hie:i=l.length:=by omega
    subst hie;simp -implicitDefEqProofs only[oS.d,J1,J2,J5,J6,↓reduceIte,reduceCtorEq,hc,dA];apply aI [0,1,2]
    ·simp only[cX,eH,kk6,cond_true,cond_false,lH,cI,kf9,kf5,mkV,kj7,kf6,kg0,kg8,kf2,if_true,ki2,kj3];rfl
    ·first|rfl|(simp[fin,bK,bB,bR,bM,dG,bO,idx,cM,aJ,bH,kg3];first|exact⟨rfl,rfl⟩|exact⟨rfl,rfl,rfl⟩)
    rw[ki1]at htk2;rw[htk2];simp only[if_neg hk2];exact⟨trivial,trivial⟩
theorem jU8 (fr to tk:List Int) (v:Nat) (A:List Int) (J:List (List D)) (hA:A.length<1000000000) (hfr:fr.length<1000000000) (hto:to.length<1000000000) (htk:tk.length<1000000000)
  (cs:List Ct) (hs:aT ctn cs<100000000) (w:WS) (hw1:w.nums.length=A.length) (hw2:w.free.length+aT ctn cs<1000000000) (hw3:0≤w.next) (hw4:(aH (ctF tk (aF fr to) A) cs w).2.next<1000000000000000) :
  VC kd5 204 [.one (.ptr 0 0),.one (.d (.sl (cs.map bD)))] [wb fr to tk v A w,wa v A w J,wf w] fun r h'=>r = .one (.d (.sl ((aH (ctF tk (aF fr to) A) cs w).1.map bD)))∧h'=[wb fr to tk v A (aH (ctF tk (aF fr to) A) cs w).2,wa v A (aH (ctF tk (aF fr to) A) cs w).2 J,wf (aH (ctF tk (aF fr to) A) cs w).2]:=by
 have hcl:=dV (f:=ctn) (fun c=>by simp[ctn]) cs;simp only[wb,wa,wf];refine aS aR jG1 (by simp) ?_;show vwp kd5 3 zw8 _ [(0,.one (.ptr 0 0)),(1,.one (.d (.sl (cs.map bD))))] [.box [.own 1 v A.length,.d (.sl (nums fr)),.d (.sl (nums to)),.d (.int .i64 w.next),.d (.sl (nums tk)),.own 2 (fv w.free) w.free.length],.arr false 2 v (rws A w.nums++J),.arr false 1 (fv w.free) (nums w.free)];conv in zw8=>cbv
 rw[aO];simp -implicitDefEqProofs only[oS.d];refine bC (α:=Nat) (fun i=>[(6,.one (.d (.int .i64 i))),(5,.one (.own 3 i i)),(0,.one (.ptr 0 0)),(1,.one (.d (.sl (cs.map bD))))])
  (fun i=>[.box [.own 1 v A.length,.d (.sl (nums fr)),.d (.sl (nums to)),.d (.int .i64 (aH (ctF tk (aF fr to) A) (cs.take i) w).2.next),.d (.sl (nums tk)),.own 2 (fv ((aH (ctF tk (aF fr to) A) (cs.take i) w).2.free)) (aH (ctF tk (aF fr to) A) (cs.take i) w).2.free.length],.arr false 2 v (rws A (aH (ctF tk (aF fr to) A) (cs.take i) w).2.nums++J),.arr false 1 (fv ((aH (ctF tk (aF fr to) A) (cs.take i) w).2.free)) (nums (aH (ctF tk (aF fr to) A) (cs.take i) w).2.free),.arr false 2 i ((aH (ctF tk (aF fr to) A) (cs.take i) w).1.map bD)])
  (fun i=>i≤cs.length) (fun i=>cs.length-i) 0
  (gE [(5,2)] [] [0,1,2,3] rfl rfl rfl rfl rfl rfl) (kg1 _) ?_
 intro i hi;have hw:=bJ (a:=i) rfl (by omega);have hl2:((aH (ctF tk (aF fr to) A) (cs.take i) w).1.map bD).length=i:=by rw[ke9,mN,kg2];omega
 have htk2:((aH (ctF tk (aF fr to) A) (cs.take i) w).1.map bD).take i=(aH (ctF tk (aF fr to) A) (cs.take i) w).1.map bD:=ke0 (by omega);rcases kf3 i cs.length with h5|h5
 ·have hc:((i:Int)<(cs.length:Int))=True:=by simp;omega
  obtain⟨c,hcc⟩:=bA h5;have hgc:(cs.map bD)[i]?=some (bD c):=by rw[ke6,hcc];rfl
  have hp:=uX (f:=ctF tk (aF fr to) A) (c:=ctn) (l:=cs) (fun c _ w=>uY c w) i w;have hp2:=uX (f:=ctF tk (aF fr to) A) (c:=ctn) (l:=cs) (fun c _ w=>uY c w) (i+1) w;have hbt:=kY (f:=ctF tk (aF fr to) A) (c:=ctn) (cs.take i) (fun c _ w=>uY c w) w;have hmc:=cY (f:=ctn) (kd7 hcc);have hsc:=jH (f:=ctn) hcc;have hle:=iY (f:=ctn) cs (i+1);have hmt:=lQ (f:=ctF tk (aF fr to) A) hcc w;have hce:=qP c;obtain⟨cn,ca⟩:=c;simp only[ctF,lP]at hmt;simp only[bD]at hgc;simp only at hce;have hla:=dV (f:=tyn) (fun t=>by cases t;simp[tyn]) ca;generalize hW:(aH (ctF tk (aF fr to) A) (cs.take i) w).2=w1 at *;rw[hmt]at hp2;simp only at hp2;have iu:∀k u,ca[k]?=some u→VC kd5 203 [.one (.ptr 0 0),tyV u] [wb fr to tk v A (aH (tyF tk (aF fr to) A) (ca.take k) w1).2,wa v A (aH (tyF tk (aF fr to) A) (ca.take k) w1).2 J,wf (aH (tyF tk (aF fr to) A) (ca.take k) w1).2] fun r h'=>r=tyV (tyF tk (aF fr to) A u (aH (tyF tk (aF fr to) A) (ca.take k) w1).2).1∧h'=[wb fr to tk v A (aH (tyF tk (aF fr to) A) (ca.take (k+1)) w1).2,wa v A (aH (tyF tk (aF fr to) A) (ca.take (k+1)) w1).2 J,wf (aH (tyF tk (aF fr to) A) (ca.take (k+1)) w1).2]:=by
   intro k u hu;have q1:=uX (f:=tyF tk (aF fr to) A) (c:=tyn) (l:=ca) (fun t _ w=>mO t w) (k+1) w1;have q2:=kY (f:=tyF tk (aF fr to) A) (c:=tyn) (ca.take k) (fun t _ w=>mO t w) w1;have q3:=jH (f:=tyn) hu;have q4:=iY (f:=tyn) ca (k+1);rw[lQ hu]at q1 ⊢;simp only at q1;exact ze9 fr to tk v A J hA hfr hto htk 99999999 u (by omega) (by omega) _ (q2.1.trans (hbt.1.trans hw1)) (by have:=q2.2.2;have:=hbt.2.2;omega) (by have:=q2.2.1;have:=hbt.2.1;omega) (by have:=q1.2;have:=hp2.2;omega)
  simp only[wb,wa,wf]at iu;simp -implicitDefEqProofs only[oS.d,J1,J2,J5,J6,↓reduceIte,reduceCtorEq,hc,hgc,ke9,kd8,kd9];refine bC (α:=Nat) (fun k=>[(8,.one (.d (.int .i64 k))),(6,.one (.d (.int .i64 i))),(5,.one (.own 3 i i)),(7,.one (.ptr 4 0)),(0,.one (.ptr 0 0)),(1,.one (.d (.sl (cs.map bD))))])
   (fun k=>[.box [.own 1 v A.length,.d (.sl (nums fr)),.d (.sl (nums to)),.d (.int .i64 (aH (tyF tk (aF fr to) A) (ca.take k) w1).2.next),.d (.sl (nums tk)),.own 2 (fv ((aH (tyF tk (aF fr to) A) (ca.take k) w1).2.free)) (aH (tyF tk (aF fr to) A) (ca.take k) w1).2.free.length],.arr false 2 v (rws A (aH (tyF tk (aF fr to) A) (ca.take k) w1).2.nums++J),.arr false 1 (fv ((aH (tyF tk (aF fr to) A) (ca.take k) w1).2.free)) (nums (aH (tyF tk (aF fr to) A) (ca.take k) w1).2.free),.arr false 2 i ((aH (ctF tk (aF fr to) A) (cs.take i) w).1.map bD),.box [.d (.str cn),.own 5 k k],.arr false 3 k (kf0 (aH (tyF tk (aF fr to) A) (ca.take k) w1).1)])
   (fun k=>k≤ca.length) (fun k=>ca.length-k) 0
   (gE [] [(4,1,3)] [0,1,2,3,4,5] rfl rfl rfl rfl rfl rfl) (kg1 _) ?_
  intro k hk;have hwk:=bJ (a:=k) rfl (by omega);have hl4:(kf0 (aH (tyF tk (aF fr to) A) (ca.take k) w1).1).length=k:=by rw[dA,mN,kg2];omega
  have htk4:(kf0 (aH (tyF tk (aF fr to) A) (ca.take k) w1).1).take k=kf0 (aH (tyF tk (aF fr to) A) (ca.take k) w1).1:=ke0 (by omega);rcases kf3 k ca.length with h6|h6
  ·have hck:((k:Int)<(ca.length:Int))=True:=by simp;omega
   obtain⟨u,hu⟩:=bA h6;have hgu:(kf0 ca)[k]?=some (aG u):=by rw[dN,ke6,hu];rfl
   have iu:=iu k u hu;have hmu:=lQ (f:=tyF tk (aF fr to) A) hu w1;have e2:kf0 (aH (tyF tk (aF fr to) A) (ca.take k) w1).1++[aG (tyF tk (aF fr to) A u (aH (tyF tk (aF fr to) A) (ca.take k) w1).2).1]=kf0 (aH (tyF tk (aF fr to) A) (ca.take (k+1)) w1).1:=by rw[hmu];simp[dN]
   clear hmu;generalize tyF tk (aF fr to) A u (aH (tyF tk (aF fr to) A) (ca.take k) w1).2=R at iu e2;obtain⟨⟨rk,rn,rl⟩,w2⟩:=R;obtain⟨uk,un,ul⟩:=u;have hcap:(k+1)*40≤aM∧k+1≤aM:=by simp[aM];omega
   simp only[tyV,aG,ke5,ke8]at hgu iu e2;simp -implicitDefEqProofs only[oS.d,J1,J2,J5,J6,J7,↓reduceIte,reduceCtorEq,hgc,hck,hgu,dA,kd8,kd9];refine aQ [0,1,2] iu rfl rfl rfl rfl ?_;simp -implicitDefEqProofs only[oS.d,J1,J2,J5,J6,J7,↓reduceIte,reduceCtorEq,hcap,htk4,hwk];rw[e2];refine⟨k+1,by omega,by omega,?_⟩;exact(aL [0,1,2,3,4,5] rfl rfl rfl rfl)
  ·have hck:((k:Int)<(ca.length:Int))=False:=by simp;omega
   have hke:k=ca.length:=by omega
   subst hke;rw[ki1]at htk4;have hcap:(i+1)*40≤aM∧i+1≤aM:=by simp[aM];omega
   have e2:(aH (ctF tk (aF fr to) A) (cs.take i) w).1.map bD++[[.str cn,.sl (kf0 (aH (tyF tk (aF fr to) A) ca w1).1)]]=(aH (ctF tk (aF fr to) A) (cs.take (i+1)) w).1.map bD:=by rw[hmt];simp[bD]
   have e3:(aH (tyF tk (aF fr to) A) ca w1).2=(aH (ctF tk (aF fr to) A) (cs.take (i+1)) w).2:=by rw[hmt]
   simp -implicitDefEqProofs only[oS.d,J1,J2,J5,J6,J7,↓reduceIte,reduceCtorEq,hgc,hck,hcap,htk2,hw,htk4,ki1,dA,kd8,kd9];rw[e2,e3];refine⟨i+1,by omega,by omega,?_⟩;exact(aL [0,1,2,3] rfl rfl rfl rfl)
 ·have hc:((i:Int)<(cs.length:Int))=False:=by simp;omega
  have hie:i=cs.length:=by omega
  subst hie;simp -implicitDefEqProofs only[oS.d,J2,J6,↓reduceIte,hc,ke9];rw[ki1]at htk2;apply aI [0,1,2]
  ·rfl
  ·simp[fin,bK,bB,bR,bM,bO,idx,cM,aJ,bH,kg3];first|exact⟨rfl,rfl⟩|exact⟨rfl,rfl,rfl⟩
  exact⟨by simp only[htk2],by simp only[]⟩
theorem z39 (fr to tk:List Int) (A:List Int) (hA:A.length<1000000000) (l:List Int) (hl:l.length<1000000000) (w:WS) (hw1:w.nums.length=A.length) (v:Nat) (J:List (List D)) :
  VC kd5 151 [.one (.ptr 0 0),.one (.d (.sl (nums l)))] [wb fr to tk v A w,wa v A w J,wf w] fun r h'=>r = .tup []∧∃v' J',h'=[wb fr to tk v' (A++l) (aY l.length w),wa v' (A++l) (aY l.length w) J',wf (aY l.length w)]:=by
 simp only[wb,wa,wf];refine aS aR jD7 (by simp) ?_;show vwp kd5 3 zu3 _ [(0,.one (.ptr 0 0)),(1,.one (.d (.sl (nums l))))] [.box [.own 1 v A.length,.d (.sl (nums fr)),.d (.sl (nums to)),.d (.int .i64 w.next),.d (.sl (nums tk)),.own 2 (fv w.free) w.free.length],.arr false 2 v (rws A w.nums++J),.arr false 1 (fv w.free) (nums w.free)];conv in zu3=>cbv
 rw[aO];simp -implicitDefEqProofs only[oS.d];refine bC (α:=Nat×Nat×List (List D)) (fun x=>[(4,.one (.d (.int .i64 x.1))),(0,.one (.ptr 0 0)),(1,.one (.d (.sl (nums l))))])
  (fun x=>[.box [.own 1 x.2.1 (A.length+x.1),.d (.sl (nums fr)),.d (.sl (nums to)),.d (.int .i64 w.next),.d (.sl (nums tk)),.own 2 (fv w.free) w.free.length],.arr false 2 x.2.1 (rws (A++l.take x.1) (w.nums++kj5 x.1 (-1))++x.2.2),.arr false 1 (fv w.free) (nums w.free)])
  (fun x=>x.1≤l.length) (fun x=>l.length-x.1) (0,v,J)
  (eT [0,1,2] _ (kb5 _) rfl rfl (by simp[bB,bH,kg3,aJ,idx]) ⟨⟨_,kc0 _,rfl⟩,⟨_,kc0 _,rfl⟩,⟨_,kc0 _,rfl⟩,trivial⟩) (kg1 _) ?_
 rintro⟨i,v1,X1⟩ hi;simp only at hi;have hw:=bJ (a:=i) rfl (by omega);have hN:(w.nums++kj5 i (-1)).length=(A++l.take i).length:=by simp[hw1];omega
 rcases kf3 i l.length with h5|h5
 ·have hc:((i:Int)<(l.length:Int))=True:=by simp;omega
  obtain⟨u,hu⟩:=bA h5;have hg:=eL hu;have hcap:(A.length+i+1)*16≤aM∧A.length+i+1≤aM:=by simp[aM];omega
  have htk:(rws (A++l.take i) (w.nums++kj5 i (-1))++X1).take (A.length+i)=rws (A++l.take i) (w.nums++kj5 i (-1)):=by
   rw[List.take_append_of_le_length (by rw[z37 hN];simp;omega),ke0 (by rw[z37 hN];simp;omega)]
  have e1:rws (A++l.take i) (w.nums++kj5 i (-1))++[[.int .i64 u,.int .i64 (-1)]]=rws (A++l.take (i+1)) (w.nums++kj5 (i+1) (-1))++[]:=by
   rw[←jU4 hN,ki0,ki7,hu,List.replicate_succ',kf1,kf1];rfl
  simp -implicitDefEqProofs only[oS.d,J1,J2,J5,J6,J7,↓reduceIte,reduceCtorEq,hc,hg,hcap,htk,hw,bW,kd8,kd9];rw[e1];refine⟨(i+1,v1+1,[]),by show i+1≤l.length;omega,by show l.length-(i+1)<l.length-i;omega,?_⟩;exact(aL [0,1,2] rfl rfl rfl rfl)
 ·have hc:((i:Int)<(l.length:Int))=False:=by simp;omega
  have hie:i=l.length:=by omega
  subst hie;simp -implicitDefEqProofs only[oS.d,J1,J2,J5,J6,↓reduceIte,reduceCtorEq,hc,bW];apply aI [0,1,2];rfl;rfl;refine⟨rfl,v1,X1,?_⟩;rw[ki1,ke1];rfl
theorem z40:WkV (.one .nils) (.one (.d (.sl []))):=by unfold WkV;exact .inr (.inl ⟨rfl,rfl⟩)
theorem jU9 (l:List Int) (n:Int):(dS l n).length≤l.length+1:=by
 have:∀l,(bub n l).length=l.length+1:=by
  intro l;induction l with
  |nil=>rfl
  |cons y r ih=>unfold bub;split<;>simp[ih]
 unfold dS;split
 ·omega
 ·simp[this]
theorem jV0 {q:List Int} {i:Nat} {m:Int} (h:q[i]?=some m):cU (q.take (i+1))=if 0≤m then dS (cU (q.take i)) m else cU (q.take i):=by
 unfold cU;rw[ki7,h];simp only[kk7,List.foldl_append,kq5,List.foldl_nil]
theorem yH:∀(q:List Int),(cU q).length≤q.length:=by
 have:∀(q acc:List Int),(q.foldl (fun out k=>if 0≤k then dS out k else out) acc).length≤acc.length+q.length:=by
  intro q;induction q with
  |nil=>intro acc;simp
  |cons k q ih=>
   intro acc;simp only[kq5,kf6];split
   ·have:=ih (dS acc k);have:=jU9 acc k;omega
   ·have:=ih acc;omega
 intro q;have:=this q [];simpa[cU]using this
theorem jV1 {A l N:List Int} {J:List (List D)} (h:N.length=A.length+l.length):rws (A++l) N++J=rws A (N.take A.length)++(rws l (N.drop A.length)++J):=by
 have e:rws (A++l) N=rws A (N.take A.length)++rws l (N.drop A.length):=by
  conv=>lhs;rw[←ki5 A.length N]
  unfold rws;rw[kv9 (by simp;omega)]
 rw[e,kf1]
theorem z41 (fr to tk:List Int) (A l:List Int) (hA:A.length<1000000000) (hl:l.length<1000000000) (w:WS) (hw1:w.nums.length=(A++l).length) (v:Nat) (J:List (List D)) :
  VC kd5 153 [.one (.ptr 0 0),.one (.d (.int .i64 l.length))] [wb fr to tk v (A++l) w,wa v (A++l) w J,wf w] fun r h'=>r = .one (.d (.sl (nums (cU (w.nums.drop A.length)))))∧∃J',h'=[wb fr to tk v A (dQ A.length w),wa v A (dQ A.length w) J',wf (dQ A.length w)]:=by
 rw[ke1]at hw1;have hsp:=jV1 (A:=A) (l:=l) (J:=J) hw1;simp only[wb,wa,wf,ke1,dQ];have w1:=kW (a:=A.length+l.length) (b:=l.length) (c:=A.length) (by omega) (by omega);refine aS aR jD9 (by simp) ?_;show vwp kd5 3 zu5 _ [(0,.one (.ptr 0 0)),(1,.one (.d (.int .i64 l.length)))] [.box [.own 1 v (A.length+l.length),.d (.sl (nums fr)),.d (.sl (nums to)),.d (.int .i64 w.next),.d (.sl (nums tk)),.own 2 (fv w.free) w.free.length],.arr false 2 v (rws (A++l) w.nums++J),.arr false 1 (fv w.free) (nums w.free)];conv in zu5=>cbv
 rw[aO];have hle:A.length≤A.length+l.length:=Nat.le_add_right _ _;rcases Nat.eq_zero_or_pos l.length with h0|h0
 ·have hl0:l=[]:=ki3.1 h0;subst hl0;simp only[kg0,Nat.add_zero]at hw1 w1 hle;simp only[ki0]at hsp;have hd:w.nums.drop A.length=[]:=kh2 (by omega);have ht:w.nums.take A.length=w.nums:=ke0 (by omega);have e0:((0:Nat):Int)=0:=rfl;have e1:((0:Int)<((0:Nat):Int))=False:=by simp
  rw[e0]at w1;simp -implicitDefEqProofs only[oS.d,J0,J1,J2,J5,J6,↓reduceIte,reduceCtorEq,e0,w1,kd8,kd9];refine bC (α:=Unit) (fun _=>[(7,.one (.d (.int .i64 0))),(6,.one (.d (.sl []))),(5,.one (.d (.sl []))),(0,.one (.ptr 0 0)),(1,.one (.d (.int .i64 0)))])
   (fun _=>[.box [.own 1 v A.length,.d (.sl (nums fr)),.d (.sl (nums to)),.d (.int .i64 w.next),.d (.sl (nums tk)),.own 2 (fv w.free) w.free.length],.arr false 2 v (rws A w.nums++J),.arr false 1 (fv w.free) (nums w.free)]) (fun _=>True) (fun _=>0) ()
   (eT [0,1,2] _ (kb5 _) rfl rfl rfl ⟨⟨_,kc0 _,rfl⟩,⟨_,kc0 _,rfl⟩,⟨_,z40,rfl⟩,⟨_,kc0 _,rfl⟩,⟨_,kc0 _,rfl⟩,trivial⟩) trivial ?_
  intro _ _;simp -implicitDefEqProofs only[oS.d,J0,J1,J2,J5,J6,↓reduceIte,reduceCtorEq,e1,w1,kd8,kd9];apply aI [0,1,2];rfl;rfl;refine⟨by rw[hd];rfl,J,?_⟩;rw[ht]
 have hne:(A.length=A.length+l.length)=False:=by simp only[eq_iff_iff,iff_false];omega
 simp -implicitDefEqProofs only[oS.d,J0,J1,J2,J5,J6,↓reduceIte,reduceCtorEq,w1,hle,hne,kd8,kd9,Nat.add_sub_cancel_left];refine bC (α:=Nat) (fun i=>[(7,.one (.d (.int .i64 i))),(6,.one (.osl 1 v A.length l.length)),(5,.one (.d (.sl (nums (cU ((w.nums.drop A.length).take i)))))),(0,.one (.ptr 0 0)),(1,.one (.d (.int .i64 l.length)))])
  (fun _=>[.box [.own 1 v (A.length+l.length),.d (.sl (nums fr)),.d (.sl (nums to)),.d (.int .i64 w.next),.d (.sl (nums tk)),.own 2 (fv w.free) w.free.length],.arr false 2 v (rws (A++l) w.nums++J),.arr false 1 (fv w.free) (nums w.free)]) (fun i=>i≤l.length) (fun i=>l.length-i) 0
  (eT [0,1,2] _ (kb5 _) rfl rfl rfl ⟨⟨_,kc0 _,rfl⟩,⟨_,kc0 _,rfl⟩,⟨_,z40,rfl⟩,⟨_,kc0 _,rfl⟩,⟨_,kc0 _,rfl⟩,trivial⟩) (kg1 _) ?_
 intro i hi;have hw:=bJ (a:=i) rfl (by omega);rcases kf3 i l.length with h5|h5
 ·have hc:((i:Int)<(l.length:Int))=True:=by simp;omega
  obtain⟨a,ha⟩:=bA (l:=A++l) (i:=A.length+i) (by simp;omega);obtain⟨m,hm⟩:=bA (l:=w.nums) (i:=A.length+i) (by omega);have hg:=zE1 (J:=J) ha hm;have hq:(w.nums.drop A.length)[i]?=some m:=by rw[List.getElem?_drop];exact hm
  have hu:=jV0 hq;have hul:=yH ((w.nums.drop A.length).take i);have hp:=jU1 (cU ((w.nums.drop A.length).take i)) m (by rw[kg2]at hul;omega);by_cases hneg:0≤m
  ·have e1:(0≤m)=True:=by simp[hneg]
   rw[if_pos hneg]at hu;rw[←hu]at hp;simp -implicitDefEqProofs only[oS.d,J0,J1,J2,J5,J6,↓reduceIte,reduceCtorEq,hc,hg,e1,kd8,kd9];refine aQ [] hp rfl rfl rfl rfl ?_;simp -implicitDefEqProofs only[oS.d,J2,↓reduceIte,hw];refine⟨i+1,by omega,by omega,?_⟩;exact(aL [0,1,2] rfl rfl rfl rfl)
  ·have e1:(0≤m)=False:=by simp[hneg]
   rw[if_neg hneg]at hu;simp -implicitDefEqProofs only[oS.d,J0,J1,J2,J5,J6,↓reduceIte,reduceCtorEq,hc,hg,e1,hw,kd8,kd9];rw[←hu];refine⟨i+1,by omega,by omega,?_⟩;exact(aL [0,1,2] rfl rfl rfl rfl)
 ·have hc:((i:Int)<(l.length:Int))=False:=by simp;omega
  have hie:i=l.length:=by omega
  subst hie;simp -implicitDefEqProofs only[oS.d,J0,J1,J2,J5,J6,↓reduceIte,reduceCtorEq,hc,w1,hle,kd8,kd9];rw[hsp];have ht:(w.nums.drop A.length).take l.length=w.nums.drop A.length:=ke0 (by rw[List.length_drop];omega);rw[ht];apply aI [0,1,2];rfl;rfl;exact⟨rfl,_,rfl⟩
def pL (fr to tk:List Int) (s:Stx):Prop:=∀(A:List Int) (w:WS) (v:Nat) (J:List (List D)),w.nums.length=A.length→A.length+stn s<500000000→w.free.length+stn s<1000000000→0≤w.next→(aZ tk (aF fr to) A s w).2.next<1000000000000000→
 VC kd5 152 [.one (.ptr 0 0),stW s] [wb fr to tk v A w,wa v A w J,wf w] fun r h'=>r=stW (aZ tk (aF fr to) A s w).1∧∃v' J',h'=[wb fr to tk v' A (aZ tk (aF fr to) A s w).2,wa v' A (aZ tk (aF fr to) A s w).2 J',wf (aZ tk (aF fr to) A s w).2]
theorem eQ {A l:List Int} {w:WS} (h:w.nums.length=A.length):(aY l.length w).nums.length=(A++l).length:=by simp[aY,h]
theorem iP {α β:Type} {f:α→WS→β×WS} {c:α→Nat} {k:Nat}:∀(l:List α),(∀a∈l,∀w,w.nums.length=k→Bh w (f a w).2 (c a))→∀w,w.nums.length=k→Bh w (aH f l w).2 (aT c l)
 |[],_,w,_=>Bh.refl w
 |a::l,h,w,hw=>(h a (by simp) w hw).trans (iP l (fun b hb=>h b (by simp[hb])) _ ((h a (by simp) w hw).1.trans hw))
theorem mP {α β:Type} {f:α→WS→β×WS} {c:α→Nat} {k:Nat} {l:List α} (h:∀a∈l,∀w,w.nums.length=k→Bh w (f a w).2 (c a)) (i:Nat) (w:WS) (hw:w.nums.length=k):Bh w (aH f (l.take i) w).2 (aT c (l.take i))∧(aH f (l.take i) w).2.next≤(aH f l w).2.next:=by
 have h1:=iP (f:=f) (c:=c) (l.take i) (fun a ha=>h a (kk1 ha)) w hw;refine⟨h1,?_⟩;conv=>rhs;rw[←ki5 i l,ze8]
 exact(iP (f:=f) (c:=c) (l.drop i) (fun a ha=>h a (kp6 ha)) _ (h1.1.trans hw)).2.1
section
variable {tk:List Int} {sb:Int→Int}
def fnF (tk:List Int) (sb:Int→Int) (A:List Int) (f:FnE) (w:WS):FnE×WS:=
 ((cU ((bU tk sb (A++f.1) f.2.2 (aZ tk sb (A++f.1) f.2.1 (aY f.1.length w)).2).2.nums.drop A.length),(aZ tk sb (A++f.1) f.2.1 (aY f.1.length w)).1,(bU tk sb (A++f.1) f.2.2 (aZ tk sb (A++f.1) f.2.1 (aY f.1.length w)).2).1),
  dQ A.length (bU tk sb (A++f.1) f.2.2 (aZ tk sb (A++f.1) f.2.1 (aY f.1.length w)).2).2)
def cT (tk:List Int) (sb:Int→Int) (A:List Int) (x:ByteArray×Stx) (w:WS):(ByteArray×Stx)×WS:=((x.1,(aZ tk sb A x.2 w).1),(aZ tk sb A x.2 w).2)
def dB (tk:List Int) (sb:Int→Int) (A:List Int) (x:ByteArray×FnE) (w:WS):(ByteArray×FnE)×WS:=((x.1,(fnF tk sb A x.2 w).1),(fnF tk sb A x.2 w).2)
def dJ (tk:List Int) (sb:Int→Int) (A:List Int) (x:cN) (w:WS):cN×WS:=((x.1,(bU tk sb A x.2 w).1),(bU tk sb A x.2 w).2)
theorem z42 {A:List Int}:∀(l:List (ByteArray×Stx)) (w:WS),aZ.goS tk sb A l w=aH (cT tk sb A) l w
 |[],w=>by rw[aZ.goS];rfl
 |(s,x)::l,w=>by rw[aZ.goS];simp only[aH,cT,z42 l]
theorem z43 {A:List Int}:∀(l:List (ByteArray×FnE)) (w:WS),aZ.goF tk sb A l w=aH (dB tk sb A) l w
 |[],w=>by rw[aZ.goF];rfl
 |(s,p,x,q,y)::l,w=>by rw[aZ.goF];simp only[aH,dB,fnF,bU,z43 l,ke1]
theorem z44 {A:List Int}:∀(l:List cN) (w:WS),aZ.goG tk sb A l w=aH (dJ tk sb A) l w
 |[],w=>by rw[aZ.goG];rfl
 |(s,q,y)::l,w=>by rw[aZ.goG];simp only[aH,dJ,bU,z44 l]
theorem sQ {A:List Int} (ts:List Tym) (vs:List Vam) (ss:List (ByteArray×Stx)) (fs:List (ByteArray×FnE)) (gs:List cN) (w:WS):aZ tk sb A (.mk ts vs ss fs gs) w =
  (.mk (aH (bY tk sb A) ts w).1 (aH (cH tk sb A) vs (aH (bY tk sb A) ts w).2).1 (aH (cT tk sb A) ss (aH (cH tk sb A) vs (aH (bY tk sb A) ts w).2).2).1 (aH (dB tk sb A) fs (aH (cT tk sb A) ss (aH (cH tk sb A) vs (aH (bY tk sb A) ts w).2).2).2).1
   (aH (dJ tk sb A) gs (aH (dB tk sb A) fs (aH (cT tk sb A) ss (aH (cH tk sb A) vs (aH (bY tk sb A) ts w).2).2).2).2).1,
   (aH (dJ tk sb A) gs (aH (dB tk sb A) fs (aH (cT tk sb A) ss (aH (cH tk sb A) vs (aH (bY tk sb A) ts w).2).2).2).2).2):=by
 rw[aZ];simp only[z42,z43,z44]
theorem sR {A:List Int} (m:Tym) (w:WS):Bh w (bY tk sb A m w).2 (cJ m):=by
 have h:=(mO (tk:=tk) (sb:=sb) (A:=A) m.t w).trans (kY (f:=ctF tk sb A) (c:=ctn) m.cts (fun c _ w=>uY c w) (tyF tk sb A m.t w).2);exact h.mono (by rw[kV];omega)
theorem sS {A:List Int} (m:Vam) (w:WS):Bh w (cH tk sb A m w).2 (cO m):=(mO (tk:=tk) (sb:=sb) (A:=A) m.s.t w).mono (by rw[qO];omega)
theorem kd3 {A l:List Int} {w w1:WS} {c:Nat} (hw:w.nums.length=A.length) (h:Bh (aY l.length w) w1 c):Bh w (dQ A.length w1) c:=by
 refine⟨?_,h.2.1,h.2.2⟩;have:=h.1;rw[eQ hw]at this;simp only[dQ,kg2,this,ke1];omega
theorem jC:∀(s:Stx) (A:List Int) (w:WS),w.nums.length=A.length→Bh w (aZ tk sb A s w).2 (stn s):=by
 intro s;induction s using Stx.ind with
 |h ts vs ss fs gs i1 i2 i3=>
 intro A w hw;rw[sQ];simp only[stn,oD,oE,oF];have b1:=kY (f:=bY tk sb A) (c:=cJ) ts (fun m _ w=>sR m w) w;have b2:=kY (f:=cH tk sb A) (c:=cO) vs (fun m _ w=>sS m w) (aH (bY tk sb A) ts w).2;generalize (aH (cH tk sb A) vs (aH (bY tk sb A) ts w).2).2=w2 at b2 ⊢;have b12:=b1.trans b2;have b3:=iP (f:=cT tk sb A) (c:=eB) (k:=A.length) ss (fun x hx w hw=>(i1 x hx A w hw).mono (by rw[nG];omega)) w2 (b12.1.trans hw);generalize (aH (cT tk sb A) ss w2).2=w3 at b3 ⊢;have b13:=b12.trans b3;have b4:=iP (f:=dB tk sb A) (c:=dZ) (k:=A.length) fs (fun x hx w hw=>by
  have k1:=(i2 x hx).1 (A++x.2.1) (aY x.2.1.length w) (eQ hw);have h2:=k1.1.trans (eQ (l:=x.2.1) hw);have k2:=(i2 x hx).2 (A++x.2.1++x.2.2.2.1) (aY x.2.2.2.1.length (aZ tk sb (A++x.2.1) x.2.2.1 (aY x.2.1.length w)).2) (eQ h2);have k3:=kd3 hw (k1.trans (kd3 h2 k2));exact k3.mono (by rw[lK];omega)) w3 (b13.1.trans hw)
 generalize (aH (dB tk sb A) fs w3).2=w4 at b4 ⊢;have b14:=b13.trans b4;have b5:=iP (f:=dJ tk sb A) (c:=eD) (k:=A.length) gs (fun x hx w hw=>by
  have k1:=i3 x hx (A++x.2.1) (aY x.2.1.length w) (eQ hw);exact(kd3 hw k1).mono (by rw[nH];omega)) w4 (b14.1.trans hw)
 exact(b14.trans b5).mono (by omega)
theorem oJ {A:List Int} (a:List Int×Stx) (w:WS) (hw:w.nums.length=A.length):Bh w (bU tk sb A a w).2 (stn a.2):=kd3 hw (jC a.2 _ _ (eQ hw))
theorem uZ {A:List Int} (f:FnE) (w:WS) (hw:w.nums.length=A.length):Bh w (fnF tk sb A f w).2 (stn f.2.1+stn f.2.2.2):=by
 have k1:=jC (tk:=tk) (sb:=sb) f.2.1 (A++f.1) (aY f.1.length w) (eQ hw);have h2:=k1.1.trans (eQ (l:=f.1) hw);exact kd3 hw (k1.trans (oJ f.2.2 _ h2))
end
theorem vA (fr to tk:List Int) {s:Stx} (H:pL fr to tk s) (l:List Int) (A:List Int) (w:WS) (v:Nat) (J:List (List D)) (hw:w.nums.length=A.length) (hA:A.length+l.length+stn s<500000000) (hf:w.free.length+stn s<1000000000) (h0:0≤w.next)
  (hb:(bU tk (aF fr to) A (l,s) w).2.next<1000000000000000) :
  VC kd5 105 [.one (.ptr 0 0),abW l s] [wb fr to tk v A w,wa v A w J,wf w] fun r h'=>r=abW (bU tk (aF fr to) A (l,s) w).1.1 (bU tk (aF fr to) A (l,s) w).1.2∧∃v' J',h'=[wb fr to tk v' A (bU tk (aF fr to) A (l,s) w).2,wa v' A (bU tk (aF fr to) A (l,s) w).2 J',wf (bU tk (aF fr to) A (l,s) w).2]:=by
 have c1:=z39 fr to tk A (by omega) l (by omega) w hw v J;have c2:=fun v J=>H (A++l) (aY l.length w) v J (eQ hw) (by simp;omega) hf h0 hb;have hl2:=(jC (tk:=tk) (sb:=aF fr to) s (A++l) (aY l.length w) (eQ hw)).1.trans (eQ (l:=l) hw);simp only[bU]at hb ⊢;generalize aZ tk (aF fr to) (A++l) s (aY l.length w)=R at c2 hb hl2 ⊢;obtain⟨⟨r1,r2,r3,r4,r5⟩,w2⟩:=R;have c3:=fun v J=>z41 fr to tk A l (by omega) (by omega) w2 hl2 v J;obtain⟨s1,s2,s3,s4,s5⟩:=s;simp only[wb,wa,wf]at c1 c2 c3 ⊢;simp only[abW,stW,aA,ke5,ke8]at c2 ⊢;refine aS aR jC0 (by simp) ?_;show vwp kd5 3 zs6 _ [(0,.one (.ptr 0 0)),(1,.agg [.d (.sl (nums l)),.d (.sl (s1.map aD)),.d (.sl (s2.map aE)),.d (.sl (ke3 s3)),.d (.sl (ke2 s4)),.d (.sl (ke4 s5))])] [.box [.own 1 v A.length,.d (.sl (nums fr)),.d (.sl (nums to)),.d (.int .i64 w.next),.d (.sl (nums tk)),.own 2 (fv w.free) w.free.length],.arr false 2 v (rws A w.nums++J),.arr false 1 (fv w.free) (nums w.free)];conv in zs6=>cbv
 rw[aO];simp -implicitDefEqProofs only[oS.d,J1,J2,J5,J6,↓reduceIte,reduceCtorEq];refine bI [0,1,2] (c1) rfl rfl rfl ?_;rintro _ _ ⟨rfl,v1,X1,rfl⟩;refine⟨_,_,rfl,?_⟩;simp -implicitDefEqProofs only[oS.d,J1,J2,J5,J6,↓reduceIte,reduceCtorEq];refine bI [0,1,2] (c2 v1 X1) rfl rfl rfl ?_;rintro _ _ ⟨rfl,v2,X2,rfl⟩;refine⟨_,_,rfl,?_⟩;simp -implicitDefEqProofs only[oS.d,J1,J2,J5,J6,↓reduceIte,reduceCtorEq,bW];refine bI [0,1,2] (c3 v2 X2) rfl rfl rfl ?_;rintro _ _ ⟨rfl,X3,rfl⟩;refine⟨_,_,rfl,?_⟩;simp -implicitDefEqProofs only[oS.d,J1,J2,J5,J6,↓reduceIte];apply aI [0,1,2]
 ·simp only[cX,eH,kk6,cond_true,cond_false,lI,cI,kf9,kf5,mkV,kj7,kf6,kg0,kg8,kf2,if_true,ki2,kj3];rfl
 ·first|rfl|(simp[fin,bK,bB,bR,bM,dG,bO,idx,cM,aJ,cL,bH,kg3];first|exact⟨rfl,rfl⟩|exact⟨rfl,rfl,rfl⟩)
 exact⟨rfl,v2,X3,rfl⟩
theorem jV2 (fr to tk:List Int) {x y:Stx} (H:pL fr to tk x) (H2:pL fr to tk y) (p q:List Int) (A:List Int) (w:WS) (v:Nat) (J:List (List D)) (hw:w.nums.length=A.length) (hA:A.length+p.length+stn x+q.length+stn y<500000000) (hf:w.free.length+stn x+stn y<1000000000) (h0:0≤w.next)
  (hb:(fnF tk (aF fr to) A (p,x,q,y) w).2.next<1000000000000000) :
  VC kd5 205 [.one (.ptr 0 0),.agg ((eU (p,x,q,y)).map .d)] [wb fr to tk v A w,wa v A w J,wf w] fun r h'=>r = .agg ((eU (fnF tk (aF fr to) A (p,x,q,y) w).1).map .d)∧∃v' J',h'=[wb fr to tk v' A (fnF tk (aF fr to) A (p,x,q,y) w).2,wa v' A (fnF tk (aF fr to) A (p,x,q,y) w).2 J',wf (fnF tk (aF fr to) A (p,x,q,y) w).2]:=by
 have c1:=z39 fr to tk A (by omega) p (by omega) w hw v J;have k1:=jC (tk:=tk) (sb:=aF fr to) x (A++p) (aY p.length w) (eQ hw);have hl2:=k1.1.trans (eQ (l:=p) hw);have k2:=oJ (tk:=tk) (sb:=aF fr to) (q,y) _ hl2;have hl3:=k2.1.trans hl2;have c2:=fun v J=>H (A++p) (aY p.length w) v J (eQ hw) (by simp;omega) (by show w.free.length+_<_;omega) h0 (Int.lt_of_le_of_lt k2.2.1 hb);have c4:=fun v J=>vA fr to tk H2 q (A++p) (aZ tk (aF fr to) (A++p) x (aY p.length w)).2 v J hl2 (by simp;omega) (by have:=k1.2.2;simp only[aY]at this;simp only[aY];omega) (km0 h0 k1.2.1) hb;simp only[fnF]at hb ⊢;generalize aZ tk (aF fr to) (A++p) x (aY p.length w)=R at c2 c4 hb hl2 hl3 ⊢;obtain⟨⟨r1,r2,r3,r4,r5⟩,w2⟩:=R;simp only at c2 c4 hb hl2 hl3 ⊢;generalize bU tk (aF fr to) (A++p) (q,y) w2=S at c4 hb hl3 ⊢;obtain⟨⟨q',⟨t1,t2,t3,t4,t5⟩⟩,w3⟩:=S;have c3:=fun v J=>z41 fr to tk A p (by omega) (by omega) w3 hl3 v J;obtain⟨s1,s2,s3,s4,s5⟩:=x;obtain⟨y1,y2,y3,y4,y5⟩:=y;simp only[wb,wa,wf]at c1 c2 c3 c4 ⊢;simp only[abW,stW,eU,aA,ke5,ke8,kg6,kh0]at c2 c4 ⊢;refine aS aR jG2 (by simp) ?_;show vwp kd5 3 zw9 _ [(0,.one (.ptr 0 0)),(1,.agg [.d (.sl (nums p)),.d (.sl (s1.map aD)),.d (.sl (s2.map aE)),.d (.sl (ke3 s3)),.d (.sl (ke2 s4)),.d (.sl (ke4 s5)),.d (.sl (nums q)),.d (.sl (y1.map aD)),.d (.sl (y2.map aE)),.d (.sl (ke3 y3)),.d (.sl (ke2 y4)),.d (.sl (ke4 y5))])] [.box [.own 1 v A.length,.d (.sl (nums fr)),.d (.sl (nums to)),.d (.int .i64 w.next),.d (.sl (nums tk)),.own 2 (fv w.free) w.free.length],.arr false 2 v (rws A w.nums++J),.arr false 1 (fv w.free) (nums w.free)];conv in zw9=>cbv
 rw[aO];simp -implicitDefEqProofs only[oS.d,J1,J2,J5,J6,↓reduceIte,reduceCtorEq];refine bI [0,1,2] (c1) rfl rfl rfl ?_;rintro _ _ ⟨rfl,v1,X1,rfl⟩;refine⟨_,_,rfl,?_⟩;simp -implicitDefEqProofs only[oS.d,J1,J2,J5,J6,↓reduceIte,reduceCtorEq];refine bI [0,1,2] (c2 v1 X1) rfl rfl rfl ?_;rintro _ _ ⟨rfl,v2,X2,rfl⟩;refine⟨_,_,rfl,?_⟩;simp -implicitDefEqProofs only[oS.d,J1,J2,J5,J6,↓reduceIte,reduceCtorEq];refine bI [0,1,2] (c4 v2 X2) rfl rfl rfl ?_;rintro _ _ ⟨rfl,v3,X3,rfl⟩;refine⟨_,_,rfl,?_⟩;simp -implicitDefEqProofs only[oS.d,J1,J2,J5,J6,↓reduceIte,reduceCtorEq,bW];refine bI [0,1,2] (c3 v3 X3) rfl rfl rfl ?_;rintro _ _ ⟨rfl,X4,rfl⟩;refine⟨_,_,rfl,?_⟩;simp -implicitDefEqProofs only[oS.d,J1,J2,J5,J6,↓reduceIte];apply aI [0,1,2]
 ·simp only[cX,eH,kk6,cond_true,cond_false,sJ,cI,kf9,kf5,mkV,kj7,kf6,kg0,kg8,kf2,if_true,ki2,kj3];rfl
 ·first|rfl|(simp[fin,bK,bB,bR,bM,dG,bO,idx,cM,aJ,cL,bH,kg3];first|exact⟨rfl,rfl⟩|exact⟨rfl,rfl,rfl⟩)
 exact⟨rfl,v3,X4,rfl⟩
end Go.Vt.Tryz
