import Derived.Test.YtdabfkmhkoppcaaGreatDoorVtO2
import Derived.Test.YtdabfkmhkoppcaaGreatDoorVtA1
import Derived.Test.YtdabfkmhkoppcaaGreatDoorVtC9
import Derived.Test.YtdabfkmhkoppcaaGreatDoorVtW1
set_option linter.all false
set_option maxHeartbeats 4000000
set_option maxRecDepth 100000
open Bool renaming false_or→kG5,not_false→kD6,not_true→kB6
open Int renaming natCast_nonneg→kq2,toNat_natCast→kq4
open List renaming append_assoc→kr3,append_nil→ku3,cons_append→kr0,drop_append→kJ5,drop_drop→kK0,drop_of_length_le→kw3,drop_zero→kw7,getElem?_cons_succ→ks4,getElem?_cons_zero→kr6,length_append→kq3,length_cons→kr4,length_drop→kx9,length_map→kr8,length_nil→kr7,length_take→kt3,map_cons→kq1,map_nil→kq5,mem_map→ky3,nil_append→kr2,take_append_drop→ku9,take_append_of_le_length→ky0,take_nil→kG6,take_of_length_le→kq6,take_succ_cons→kv5,take_zero→kw1
open Nat renaming add_mul→kA6,le_refl→ks0,lt_or_ge→ks3,lt_trichotomy→kF1,min_eq_left→kC7,mul_assoc→kK8,mul_comm→kD8,mul_le_mul_right→kv6,not_lt_zero→ky7,one_mul→kL4,reduceAdd→ks7,reduceBEq→kx5,reduceLeDiff→kw5,succ_le_of_lt→kJ6,succ_mul→kD3,zero_le→kt1
open Go.Proofs.Tryz renaming prog→kp8
open Go.Vt.aA renaming funs→kq8,sigs→kq9,subs→kq7
open Go.Vt.aF renaming encs→ks8
open Go.Vt.aG renaming renLs→ks9
open Go.Vt renaming dL→J0,mkV→J1
open Nat renaming reduceBEq→J2,reduceEqDiff→J3,reduceLT→J4,reduceLeDiff→J5,reduceAdd→J6,reduceMul→J7,reduceSub→J8
namespace Go.Vt.Tryz
open Go.Proofs Go.Vt.Al
theorem wX {α:Type} {P T:List α} {i n:Nat} (h:i+n≤P.length):((P++T).drop i).take n=(P.drop i).take n:=by
 rw[List.drop_append_of_le_length (by omega),ky0 (by simp;omega)]
theorem zk3 {α:Type} {P Z S:List α} {n:Nat} (h:Z.length=n∨(S=[]∧Z.length≤n)):((P++(Z++S)).drop P.length).take n=Z:=by
 rw[List.drop_left];rcases h with h|⟨rfl,h⟩
 ·rw[ky0 (by omega),kq6 (by omega)]
 ·rw[ku3,kq6 h]
theorem j98 {α:Type} {P Z W S:List α} {i:Nat} (h:Z.length=W.length) (hi:P.length+Z.length≤i):(P++(Z++S)).drop i=(P++(W++S)).drop i:=by
 rw[←kr3,←kr3,kJ5 (l₁:=P++Z),kJ5 (l₁:=P++W),kw3 (l:=P++Z) (by rw[kq3];omega),kw3 (l:=P++W) (by rw[kq3];omega),kq3,kq3,h]
theorem zM8 {α:Type} (l:List α) (a n:Nat):l=l.take a++((l.drop a).take n++l.drop (a+n)):=by
 rw[←kK0,ku9,ku9]
section
variable {tS tE tF:TypeId} {k:Nat} {fc nm:FuncId} {R:List D→Prop} {ver:Nat} {lt:ByteArray→ByteArray→Bool}
theorem zM9:Srd lt kyD []:=List.Pairwise.nil
theorem j99 (hlt:eK lt) (H:lV tS tE k) (hC:oK lt fc nm R) {f fN fM fO fR:FuncId} (hN:aJ kp8 fN 53 (oD tS tE) []) (hR2:aJ kp8 fR 38 (mJ tS tE) []) (hO:aJ kp8 fO 58 (nL tS tF fR) []) (hM:aJ kp8 fM 220 (oE tS tE tF fO fM) [])
  (hF:aJ kp8 f 63 (oX tS tF fN fM) []) (hne:fR≠288) (hne2:fO≠288) (hne3:fM≠288) (hne4:fN≠288) (rows:List (List D)) (hR:∀x∈rows,R x) (hr:∀x∈rows,x.length=k) (len:Nat) (hlen:rows.length=len) (hbig:len<1000000000) :
  dU f [.one (.own 0 ver len),.one (.d (.int .i64 len)),.one (.fn fc [.ptr 1 0])] k ver nm rows fun rs=>Srd lt kyD rs∧Fil kyD rs rows:=by
 unfold dU;refine aU mixed hF (by simp) ?_;have ins:∀(rs:List (List D)),Fil kyD rs rows→∀a n:Nat,a+n≤len→dU fN [.one (.own 0 ver len),.one (.d (.int .i64 a)),.one (.d (.int .i64 (a+n:Nat))),.one (.fn fc [.ptr 1 0])] k ver nm rs
   fun rs'=>∃Z,Srd lt kyD Z∧Z.length=n∧rs'=rs.take a++(Z++rs.drop (a+n))∧Fil kyD rs' rows:=by
  intro rs hp a n ha;have hl:rs.length=len:=by rw[hp.len,hlen]
  have e:=zM8 rs a n;have l1:(rs.take a).length=a:=by rw[kt3];omega
  have l2:((rs.drop a).take n).length=n:=by rw[kt3,kx9];omega
  have hi:=j97 (ver:=ver) hlt H hC hN (rs.take a) ((rs.drop a).take n) (rs.drop (a+n)) (fun x hx=>hR x (hp.mem (by rw[e];exact hx))) (fun x hx=>hr x (hp.mem (by rw[e];exact hx))) a (a+n) len l1.symm (by omega) (by rw[←e];exact hl) hbig;rw[←e]at hi;unfold dU at hi ⊢;refine hi.mono ?_;rintro r h' ⟨e1,rs',⟨Z,h1,h2,h3⟩,e3⟩;refine⟨e1,rs',⟨Z,h1,by rw[h2.len,l2],h3,?_⟩,e3⟩;rw[h3];refine Fil.trans ?_ hp;conv=>rhs;rw[e]
  exact kn8.app (h2.app kn8)
 have sym:∀(rs:List (List D)),Fil kyD rs rows→∀a n q:Nat,1≤n→1≤q→a+n+q≤len→Srd lt kyD ((rs.drop a).take n)→Srd lt kyD ((rs.drop (a+n)).take q)→
   dU fM [.one (.own 0 ver len),.one (.d (.int .i64 a)),.one (.d (.int .i64 (a+n:Nat))),.one (.d (.int .i64 (a+n+q:Nat))),.one (.fn fc [.ptr 1 0])] k ver nm rs
   fun rs'=>∃Z,Srd lt kyD Z∧Z.length=n+q∧rs'=rs.take a++(Z++rs.drop (a+n+q))∧Fil kyD rs' rows:=by
  intro rs hp a n q hn hq ha s1 s2;have hl:rs.length=len:=by rw[hp.len,hlen]
  have e0:=zM8 rs a n;have e1:rs.drop (a+n)=(rs.drop (a+n)).take q++rs.drop (a+n+q):=by rw[←kK0 (i:=q),ku9]
  have e:rs=rs.take a++((rs.drop a).take n++((rs.drop (a+n)).take q++rs.drop (a+n+q))):=by rw[←e1];exact e0
  have l1:(rs.take a).length=a:=by rw[kt3];omega
  have l2:((rs.drop a).take n).length=n:=by rw[kt3,kx9];omega
  have l3:((rs.drop (a+n)).take q).length=q:=by rw[kt3,kx9];omega
  have hi:=jg3 (ver:=ver) hlt H hC hR2 hO hM hne hne2 hne3 (n+q) (rs.take a) ((rs.drop a).take n) ((rs.drop (a+n)).take q) (rs.drop (a+n+q)) (by omega) (by omega) s1 s2 (fun x hx=>hR x (hp.mem (by rw[e];exact hx))) (fun x hx=>hr x (hp.mem (by rw[e];exact hx))) a (a+n) (a+n+q) len (by omega) l1.symm (by omega) (by omega) (by rw[←e];exact hl) hbig;rw[←e]at hi;unfold dU at hi ⊢;refine hi.mono ?_;rintro r h' ⟨g1,rs',⟨Z,hZ,h3⟩,g3⟩;refine⟨g1,rs',⟨Z,hZ.1,by rw[hZ.2.len,kq3,l2,l3],h3,?_⟩,g3⟩;rw[h3];refine Fil.trans ?_ hp;conv=>rhs;rw[e]
  have:=(kn8 (ky:=kyD) (l:=rs.take a)).app (hZ.2.app (kn8 (l:=rs.drop (a+n+q))))
  rwa [kr3]at this
 show vwp kp8 2 (oX tS tF fN fM) _ [(0,.one (.own 0 ver len)),(1,.one (.d (.int .i64 len))),(2,.one (.fn fc [.ptr 1 0]))] [.arr false k ver rows,.box [.fn nm []]];unfold oX;rw[aO];simp -implicitDefEqProofs only[oS.d,J0,J1,J2,J3,J4,J5,J6,J7,J8,↓reduceIte,reduceCtorEq];refine bE (α:=Nat×List (List D)) (fun x=>[(7,.one (.d (.int .i64 x.1))),(8,.one (.d (.int .i64 (x.1+20:Nat)))),(6,.one (.d (.int .i64 20))),(0,.one (.own 0 ver len)),(1,.one (.d (.int .i64 len))),(2,.one (.fn fc [.ptr 1 0]))]) (fun x=>[.arr false k ver x.2,.box [.fn nm []]])
  (fun x=>x.1≤len∧Fil kyD x.2 rows∧∃q,x.1=q*20∧∀j,j<q→Srd lt kyD ((x.2.drop (j*20)).take 20)) (fun x=>len-x.1) (0,rows)
  (aP [0,1] rfl rfl rfl rfl) ⟨kt1 _,kn8,0,rfl,fun j hj=>absurd hj (ky7 _)⟩ ?_
 rintro⟨a,rs⟩ ⟨ha,hp,q,hq,hs⟩;simp only at ha hp hq hs;have hl:rs.length=len:=by rw[hp.len,hlen]
 rcases ks3 len (a+20)with h|h
 ·have hc:(((a+20:Nat):Int)≤(len:Int))=False:=by simp;omega
  have hi:=ins rs hp a (len-a) (by omega);rw[show a+(len-a)=len by omega]at hi;unfold dU at hi;simp -implicitDefEqProofs only[oS.d,J0,J1,J2,J3,J4,J5,J6,J7,J8,↓reduceIte,reduceCtorEq,hc,hne4];refine bJ [0,1] (hi) rfl rfl rfl ?_;rintro _ _ ⟨rfl,rs',⟨Z,hZ,hZl,hrs',hp'⟩,rfl⟩;refine⟨_,_,rfl,?_⟩;have hB:∀j,Srd lt kyD ((rs'.drop (j*20)).take 20):=by
   intro j;rw[kw3 (by omega),ku3]at hrs';have l1:(rs.take a).length=a:=by rw[kt3];omega
   rcases kF1 j q with g|g|g
   ·have:j*20+20≤a:=by omega
    rw[hrs',wX (by omega)];have e:=hs j g;rw[←ku9 a rs,wX (by omega)]at e;exact e
   ·subst g;rw[hrs',←hq];have:=zk3 (P:=rs.take a) (Z:=Z) (S:=[]) (n:=20) (.inr ⟨rfl,by omega⟩);rw[ku3,l1]at this;rw[this];exact hZ
   ·rw[kw3 (by rw[hp'.len];omega)];simp only[kG6];exact zM9
  clear hrs';simp -implicitDefEqProofs only[oS.d,J0,J1,J2,J3,J4,J5,J6,J7,J8,↓reduceIte,reduceCtorEq];refine bE (α:=Nat×List (List D)) (fun x=>[(6,.one (.d (.int .i64 x.1))),(0,.one (.own 0 ver len)),(1,.one (.d (.int .i64 len))),(2,.one (.fn fc [.ptr 1 0]))]) (fun x=>[.arr false k ver x.2,.box [.fn nm []]])
   (fun x=>1≤x.1∧x.1≤2*len+20∧Fil kyD x.2 rows∧∀j,Srd lt kyD ((x.2.drop (j*x.1)).take x.1)) (fun x=>len-x.1) (20,rs')
   (aP [0,1] rfl rfl rfl rfl) ⟨by show 1≤20;omega,by show 20≤2*len+20;omega,hp',hB⟩ ?_
  rintro⟨bs,ss⟩ ⟨hb1,hb2,hq2,hB2⟩;simp only at hb1 hb2 hq2 hB2;have hl2:ss.length=len:=by rw[hq2.len,hlen]
  rcases ks3 bs len with h2|h2
  ·have hc2:((bs:Int)<(len:Int))=True:=by simp;omega
   have w1:IntKind.i64.wrap (2*(bs:Int))=((2*bs:Nat):Int):=by rw[IntKind.wrap_i64];omega
   have w2:IntKind.i64.wrap ((bs:Int)*2)=((2*bs:Nat):Int):=by rw[IntKind.wrap_i64];omega
   simp -implicitDefEqProofs only[oS.d,J0,J1,J2,J3,J4,J5,J6,J7,J8,↓reduceIte,reduceCtorEq,hc2,w1];refine bE (α:=Nat×List (List D)) (fun x=>[(7,.one (.d (.int .i64 x.1))),(8,.one (.d (.int .i64 (x.1+2*bs:Nat)))),(6,.one (.d (.int .i64 bs))),(0,.one (.own 0 ver len)),(1,.one (.d (.int .i64 len))),(2,.one (.fn fc [.ptr 1 0]))]) (fun x=>[.arr false k ver x.2,.box [.fn nm []]])
    (fun x=>x.1≤len∧Fil kyD x.2 rows∧∃q,x.1=q*(2*bs)∧(∀j,j<q→Srd lt kyD ((x.2.drop (j*(2*bs))).take (2*bs)))∧∀j,2*q≤j→Srd lt kyD ((x.2.drop (j*bs)).take bs)) (fun x=>len-x.1) (0,ss)
    (gJ [0,1] _ (ko1 _) rfl rfl rfl ⟨⟨_,ko0 _,rfl⟩,⟨_,ko0 _,by rw[show((0,ss):Nat×List (List D)).1+2*bs=2*bs from Nat.zero_add _];rfl⟩,⟨_,ko0 _,rfl⟩,⟨_,ko0 _,rfl⟩,⟨_,ko0 _,rfl⟩,⟨_,ko0 _,rfl⟩,trivial⟩)
    ⟨kt1 _,hq2,0,by simp,fun j hj=>absurd hj (ky7 _),fun j _=>hB2 j⟩ ?_
   rintro⟨c,us⟩ ⟨hcl,hu,q,hcq,hs1,hs2⟩;simp only at hcl hu hcq hs1 hs2;clear hs hB hB2;have hlu:us.length=len:=by rw[hu.len,hlen]
   have hcb:(2*q)*bs=c:=by rw[hcq,kD8 2 q,kK8]
   have hcb2:(2*q+1)*bs=c+bs:=by rw[kA6,kL4,hcb]
   have sX:=hs2 (2*q) (ks0 _);have sY:=hs2 (2*q+1) (by omega);rw[hcb]at sX;rw[hcb2]at sY;have hjl:∀j,j<q→j*(2*bs)+2*bs≤c:=fun j hj=>by
    have:=kv6 (2*bs) (kJ6 hj);rw[kD3]at this;omega
   have hjr:∀j,q<j→c+2*bs≤j*(2*bs):=fun j hj=>by
    have:=kv6 (2*bs) (kJ6 hj);rw[kD3]at this;omega
   have l1:(us.take c).length=c:=by rw[kt3];omega
   have hpre:∀(T:List (List D)) j,j<q→Srd lt kyD (((us.take c++T).drop (j*(2*bs))).take (2*bs)):=fun T j hj=>by
    have g:=hjl j hj;rw[wX (by omega)];have e:=hs1 j hj;rw[←ku9 c us,wX (by omega)]at e;exact e
   have w3:=oG (a:=c) (b:=bs) rfl (by omega);rcases ks3 len (c+2*bs)with h3|h3
   ·have hc3:(((c+2*bs:Nat):Int)≤(len:Int))=False:=by simp;omega
    rcases ks3 (c+bs) len with h4|h4
    ·have hc4:(((c+bs:Nat):Int)<(len:Int))=True:=by simp;omega
     have sY2:Srd lt kyD ((us.drop (c+bs)).take (len-(c+bs))):=by
      rw[kq6 (by simp;omega)]at sY;rw[kq6 (by simp;omega)];exact sY
     have hi:=sym us hu c bs (len-(c+bs)) hb1 (by omega) (by omega) sX sY2;rw[show c+bs+(len-(c+bs))=len by omega]at hi;unfold dU at hi;simp -implicitDefEqProofs only[oS.d,J0,J1,J2,J3,J4,J5,J6,J7,J8,↓reduceIte,reduceCtorEq,hc3,w3,hc4,hne3];refine bJ [0,1] (hi) rfl rfl rfl ?_;rintro _ _ ⟨rfl,us',⟨Z,hZ,hZl,hus',hu'⟩,rfl⟩;refine⟨_,_,rfl,?_⟩;have hnew:∀j,Srd lt kyD ((us'.drop (j*(2*bs))).take (2*bs)):=by
      intro j;rcases kF1 j q with g|g|g
      ·rw[hus'];exact hpre _ j g
      ·subst g;rw[hus',←hcq,kw3 (l:=us) (by omega)];have:=zk3 (P:=us.take c) (Z:=Z) (S:=[]) (n:=2*bs) (.inr ⟨rfl,by omega⟩);rw[l1]at this;rw[this];exact hZ
      ·have:=hjr j g;rw[kw3 (by rw[hu'.len];omega)];simp only[kG6];exact zM9
     clear hus' hpre;simp -implicitDefEqProofs only[oS.d,J0,J1,J2,J3,J4,J5,J6,J7,J8,↓reduceIte,reduceCtorEq,w2];refine⟨(2*bs,us'),⟨by show 1≤2*bs;omega,by show 2*bs≤2*len+20;omega,hu',hnew⟩,by show len-2*bs<len-bs;omega,?_⟩;exact(aP [0,1] rfl rfl rfl rfl)
    ·have hc4:(((c+bs:Nat):Int)<(len:Int))=False:=by simp;omega
     have hnew:∀j,Srd lt kyD ((us.drop (j*(2*bs))).take (2*bs)):=by
      intro j;rcases kF1 j q with g|g|g
      ·exact hs1 j g
      ·subst g;rw[←hcq,kq6 (by simp;omega)];rw[kq6 (by simp;omega)]at sX;exact sX
      ·have:=hjr j g;rw[kw3 (by omega)];simp only[kG6];exact zM9
     clear hpre;simp -implicitDefEqProofs only[oS.d,J0,J1,J2,J3,J4,J5,J6,J7,J8,↓reduceIte,reduceCtorEq,hc3,w3,hc4,w2];refine⟨(2*bs,us),⟨by show 1≤2*bs;omega,by show 2*bs≤2*len+20;omega,hu,hnew⟩,by show len-2*bs<len-bs;omega,?_⟩;exact(aP [0,1] rfl rfl rfl rfl)
   ·have hc3:(((c+2*bs:Nat):Int)≤(len:Int))=True:=by simp;omega
    have hi:=sym us hu c bs bs hb1 hb1 (by omega) sX sY;rw[show c+bs+bs=c+2*bs by omega]at hi;unfold dU at hi;have w4:=oG (a:=c+2*bs) (b:=2*bs) rfl (by omega);simp -implicitDefEqProofs only[oS.d,J0,J1,J2,J3,J4,J5,J6,J7,J8,↓reduceIte,reduceCtorEq,hc3,w3,hne3];refine bJ [0,1] (hi) rfl rfl rfl ?_;rintro _ _ ⟨rfl,us',⟨Z,hZ,hZl,hus',hu'⟩,rfl⟩;refine⟨_,_,rfl,?_⟩;have hcq2:c+2*bs=(q+1)*(2*bs):=by rw[kA6,kL4,hcq]
    have n1:∀j,j<q+1→Srd lt kyD ((us'.drop (j*(2*bs))).take (2*bs)):=by
     intro j hj;rcases ks3 j q with g|g
     ·rw[hus'];exact hpre _ j g
     ·have:j=q:=by omega
      subst this;rw[hus',←hcq];have:=zk3 (P:=us.take c) (Z:=Z) (S:=us.drop (c+2*bs)) (n:=2*bs) (.inl (by omega));rw[l1]at this;rw[this];exact hZ
    have n2:∀j,2*(q+1)≤j→Srd lt kyD ((us'.drop (j*bs)).take bs):=by
     intro j hj;have hjb:c+2*bs≤j*bs:=by
      have:=kv6 bs hj;have e3:2*(q+1)*bs=c+2*bs:=by rw[hcq2,kD8 2 (q+1),kK8]
      omega
     have e:=hs2 j (by omega);have e4:=zM8 us c (2*bs);rw[hus',j98 (W:=(us.drop c).take (2*bs)) (by rw[kt3,kx9];omega) (by omega),←e4];exact e
    clear hus' hpre;simp -implicitDefEqProofs only[oS.d,J0,J1,J2,J3,J4,J5,J6,J7,J8,↓reduceIte,reduceCtorEq,w1,w4];refine⟨(c+2*bs,us'),⟨h3,hu',q+1,hcq2,n1,n2⟩,by show len-(c+2*bs)<len-c;omega,?_⟩;exact(aP [0,1] rfl rfl rfl rfl)
  ·have hc2:((bs:Int)<(len:Int))=False:=by simp;omega
   have hfin:=hB2 0;rw[Nat.zero_mul,kw7,kq6 (by omega)]at hfin;clear hs hB hB2;simp -implicitDefEqProofs only[oS.d,J0,J1,J2,J3,J4,J5,J6,J7,J8,↓reduceIte,reduceCtorEq,hc2];apply aH [0,1];rfl;rfl;exact⟨rfl,_,⟨hfin,hq2⟩,rfl⟩
 ·have hc:(((a+20:Nat):Int)≤(len:Int))=True:=by simp;omega
  have hi:=ins rs hp a 20 h;unfold dU at hi;have w1:IntKind.i64.wrap (((a+20:Nat):Int)+20)=((a+20+20:Nat):Int):=by rw[IntKind.wrap_i64];omega
  simp -implicitDefEqProofs only[oS.d,J0,J1,J2,J3,J4,J5,J6,J7,J8,↓reduceIte,reduceCtorEq,hc,hne4];refine bJ [0,1] (hi) rfl rfl rfl ?_;rintro _ _ ⟨rfl,rs',⟨Z,hZ,hZl,hrs',hp'⟩,rfl⟩;refine⟨_,_,rfl,?_⟩;have hB:∀j,j<q+1→Srd lt kyD ((rs'.drop (j*20)).take 20):=by
   intro j hj;have l1:(rs.take a).length=a:=by rw[kt3];omega
   rcases ks3 j q with g|g
   ·rw[hrs',wX (by omega)];have e:=hs j g;rw[←ku9 a rs,wX (by omega)]at e;exact e
   ·have:j=q:=by omega
    subst this;rw[hrs',←hq];have:=zk3 (P:=rs.take a) (Z:=Z) (S:=rs.drop (a+20)) (n:=20) (.inl hZl);rw[l1]at this;rw[this];exact hZ
  clear hrs' hs;simp -implicitDefEqProofs only[oS.d,J0,J1,J2,J3,J4,J5,J6,J7,J8,↓reduceIte,reduceCtorEq,w1];refine⟨(a+20,rs'),⟨h,hp',q+1,by omega,hB⟩,by show len-(a+20)<len-a;omega,?_⟩;exact(aP [0,1] rfl rfl rfl rfl)
theorem ka0 (hlt:eK lt) (H:lV tS tE k) (hC:oK lt fc nm R) {fS f fN fM fO fR:FuncId} (hN:aJ kp8 fN 53 (oD tS tE) []) (hR2:aJ kp8 fR 38 (mJ tS tE) []) (hO:aJ kp8 fO 58 (nL tS tF fR) []) (hM:aJ kp8 fM 220 (oE tS tE tF fO fM) [])
  (hT:aJ kp8 f 63 (oX tS tF fN fM) []) (hF:aJ kp8 fS 9 (pY tS tF f) []) (hne:fR≠288) (hne2:fO≠288) (hne3:fM≠288) (hne4:fN≠288) (hne5:f≠288) (rows:List (List D)) (hR:∀x∈rows,R x) (hr:∀x∈rows,x.length=k) (hbig:rows.length<1000000000) :
  dU fS [.one (.own 0 ver rows.length),.one (.fn fc [.ptr 1 0])] k ver nm rows fun rs=>Srd lt kyD rs∧Fil kyD rs rows:=by
 have hs:=j99 (ver:=ver) hlt H hC hN hR2 hO hM hT hne hne2 hne3 hne4 rows hR hr rows.length rfl hbig;obtain⟨b1,z1,b2,z2,hS,hb2,hz2,hk0⟩:=H.S;unfold dU at hs ⊢;refine aU mixed hF (by simp) ?_;generalize hlen:rows.length=len at *;show vwp kp8 2 (pY tS tF f) _ [(0,.one (.own 0 ver len)),(1,.one (.fn fc [.ptr 1 0]))] [.arr false k ver rows,.box [.fn nm []]];unfold pY;rw[aO];simp -implicitDefEqProofs only[oS.d,J0,J1,J2,J3,J4,J5,J6,J7,J8,↓reduceIte,reduceCtorEq,jU hS,hne5];refine bJ [0,1] (hs) rfl rfl rfl ?_;rintro _ _ ⟨rfl,rs',hp',rfl⟩;refine⟨_,_,rfl,?_⟩;simp -implicitDefEqProofs only[oS.d,J0,J1,J2,J3,J4,J5,J6,J7,J8,↓reduceIte,reduceCtorEq];apply aH [0,1];rfl;rfl;exact⟨rfl,_,hp',rfl⟩
end
theorem jg4 {m:Nat→Option Nat}:∀x:List D,ks9 m (x.map .d)=some (x.map .d)
 |[]=>rfl
 |d::r=>by simp only[kq1,ks9,aG,jg4 r]
theorem ka1 {f:FuncId} {x:List D} {h:aB} {K:Kn (V×aB)} {y:List D} (H:VC kp8 f [.agg (x.map .d)] [] fun r h'=>r = .agg (y.map .d)∧h'=[])
  (hk:K.run (.agg (y.map .d),h)):@kE _ kp8 f [.agg (x.map .d)] h K:=by
 refine bJ [] H rfl ?_ rfl ?_
 ·simp[cE,bP,zG0]
 rintro _ _ ⟨rfl,rfl⟩;refine⟨.agg (y.map .d),h,?_,hk⟩;unfold mE;split
 ·rfl
 ·simp[hJ,jg4,jN,dM,mD,zG1,eB,eV]
theorem jg5 (s:ByteArray):VC kp8 240 [.one (.d (.str s))] [] fun r h'=>r = .one (.d (.bool false))∧h'=[]:=by
 refine aU mixed jQ1 (by simp) ?_;show vwp kp8 0 zD3 _ [(0,.one (.d (.str s)))] [];conv in zD3=>cbv
 rw[aO];simp -implicitDefEqProofs only[oS.d,J0,J1,J2,J3,J4,J5,J6,J7,J8,↓reduceIte,reduceCtorEq,decide_true,kB6];apply aH [];rfl;rfl;exact⟨rfl,rfl⟩
theorem ka2 (s t:ByteArray):VC kp8 186 [.one (.d (.str s)),.one (.d (.str t))] [] fun r h'=>r = .one (.d (.int .i64 (cY s.data.toList t.data.toList)))∧h'=[]:=by
 have n1:=jg5 s;have n2:=jg5 t;have e1:=j05 s t;have e2:=j06 s t;refine aU mixed jN4 (by simp) ?_;show vwp kp8 0 zA5 _ [(0,.one (.d (.str s))),(1,.one (.d (.str t)))] [];conv in zA5=>cbv
 rw[aO];simp -implicitDefEqProofs only[oS.d,J0,J1,J2,J3,J4,J5,J6,J7,J8,↓reduceIte,reduceCtorEq];refine aM [] n1 rfl rfl rfl rfl ?_;simp -implicitDefEqProofs only[oS.d,J0,J1,J2,J3,J4,J5,J6,J7,J8,↓reduceIte,reduceCtorEq];refine aM [] n2 rfl rfl rfl rfl ?_;rcases zI6 s.data.toList t.data.toList with h|h|h
 ·have a1:ltN s t=true:=by unfold ltN;rw[h];rfl
  rw[a1]at e1;rw[h];simp -implicitDefEqProofs only[oS.d,J0,J1,J2,J3,J4,J5,J6,J7,J8,↓reduceIte,reduceCtorEq,e1];apply aH [];rfl;rfl;exact⟨rfl,rfl⟩
 ·have a1:ltN s t=false:=by unfold ltN;rw[h];rfl
  have a2:ltN t s=false:=by unfold ltN;rw[zO s.data.toList,h];rfl
  rw[a1]at e1;rw[e1,a2,kG5]at e2;simp only[kD6,kB6]at e2;rw[h];simp -implicitDefEqProofs only[oS.d,J0,J1,J2,J3,J4,J5,J6,J7,J8,↓reduceIte,reduceCtorEq,e1,e2,kD6,kB6];apply aH [];rfl;rfl;exact⟨rfl,rfl⟩
 ·have a1:ltN s t=false:=by unfold ltN;rw[h];rfl
  have a2:ltN t s=true:=by unfold ltN;rw[zO s.data.toList,h];rfl
  rw[a1]at e1;rw[e1,a2,kG5]at e2;simp only[kD6,kB6]at e2;rw[h];simp -implicitDefEqProofs only[oS.d,J0,J1,J2,J3,J4,J5,J6,J7,J8,↓reduceIte,reduceCtorEq,e1,e2,kD6,kB6];apply aH [];rfl;rfl;exact⟨rfl,rfl⟩
theorem za8 (s t:ByteArray):VC kp8 129 [.one (.d (.str s)),.one (.d (.str t))] [] fun r h'=>r = .one (.d (.int .i64 (cY s.data.toList t.data.toList)))∧h'=[]:=by
 have n1:=ka2 s t;generalize cY s.data.toList t.data.toList=c at *;refine aU mixed jL4 (by simp) ?_;show vwp kp8 0 zy5 _ [(0,.one (.d (.str s))),(1,.one (.d (.str t)))] [];conv in zy5=>cbv
 rw[aO];simp -implicitDefEqProofs only[oS.d,J0,J1,J2,J3,J4,J5,J6,J7,J8,↓reduceIte,reduceCtorEq];refine aM [] n1 rfl rfl rfl rfl ?_;simp -implicitDefEqProofs only[oS.d,J0,J1,J2,J3,J4,J5,J6,J7,J8,↓reduceIte,reduceCtorEq];apply aH [];rfl;rfl;exact⟨rfl,rfl⟩
theorem za9 {α:Type} {k:Nat} (enc:α→List D) (nf:α→ByteArray) (g:α→α) (hk:∀a,(enc a).length=k) (hnf:∀a,kyD (enc a)=nf a) {tS tE tF tN:TypeId} {fc nm:FuncId} (H:lV tS tE k) (hC:oK ltN fc nm fun x=>∃a,x=enc a) {fS fT fN fM fO fR fC fd:FuncId} (hN:aJ kp8 fN 53 (oD tS tE) []) (hR2:aJ kp8 fR 38 (mJ tS tE) []) (hO:aJ kp8 fO 58 (nL tS tF fR) []) (hM:aJ kp8 fM 220 (oE tS tE tF fO fM) [])
  (hT:aJ kp8 fT 63 (oX tS tF fN fM) []) (hS2:aJ kp8 fS 9 (pY tS tF fT) []) (hCl:aJ kp8 fC 8 (pZ tS) [.tmp 2]) (hF:aJ kp8 fd 30 (rU tS tE tF tN fC fc fS) [.tmp 6]) (bN:bty kp8 tN=none)
  (hne:fR≠288) (hne2:fO≠288) (hne3:fM≠288) (hne4:fN≠288) (hne5:fT≠288) (hne6:fS≠288) (hne7:fC≠288) {fm:FuncId} (l:List α)
  (hm:∀a∈l,VC kp8 fm [.agg ((enc a).map .d)] [] fun r h'=>r = .agg ((enc (g a)).map .d)∧h'=[]) (hbig:l.length<1000000000) :
  VC kp8 fd [.one (.d (.sl (l.map enc))),.one (.fn nm []),.one (.fn fm [])] [] fun r h'=>r = .one (.d (.sl ((dV ltN nf (l.map g)).map enc)))∧h'=[]:=by
 obtain⟨b1,z1,b2,z2,hS,hb2,hz2,hk0⟩:=H.S;obtain⟨b3,z3,fs3,hE⟩:=H.E;have hall:mC k (l.map enc)=true:=by simp[mC,hk]
 have hc0:=z61 H hCl (l.map enc) hall (by rw[kr8];exact hbig);refine aU mixed hF (by simp) ?_;show vwp kp8 0 (rU tS tE tF tN fC fc fS) _ [(0,.one (.d (.sl (l.map enc)))),(1,.one (.fn nm [])),(2,.one (.fn fm []))] [];unfold rU;rw[aO];have srt:∀(ver:Nat) (l1:List α),l1.length<1000000000→dU fS [.one (.own 0 ver l1.length),.one (.fn fc [.ptr 1 0])] k ver nm (l1.map enc) fun rs=>rs=(dV ltN nf l1).map enc:=by
  intro ver l1 hb1;have:=ka0 (ver:=ver) (R:=fun x=>∃a,x=enc a) wI H hC hN hR2 hO hM hT hS2 hne hne2 hne3 hne4 hne5 (l1.map enc) (fun x hx=>by obtain⟨a,_,rfl⟩:=ky3.1 hx;exact⟨a,rfl⟩) (fun x hx=>by obtain⟨a,_,rfl⟩:=ky3.1 hx;exact hk a) (by rw[kr8];exact hb1);rw[kr8]at this;unfold dU at this ⊢;refine this.mono ?_;rintro r h' ⟨e1,rs,⟨e2,e3⟩,e4⟩;refine⟨e1,rs,?_,e4⟩;rw[z93 wI e2 e3,z99];simp only[hnf]
 simp -implicitDefEqProofs only[oS.d,J0,J1,J2,J3,J4,J5,J6,J7,J8,↓reduceIte,reduceCtorEq,jU hS,bN,hne7];refine bJ [] hc0 rfl rfl rfl ?_;rintro _ _ (⟨he,rfl,rfl⟩|⟨rfl,rfl⟩)
 ·have hl0:l=[]:=by simpa using he
  subst hl0;refine⟨_,_,rfl,?_⟩;simp -implicitDefEqProofs only[oS.d,J0,J1,J2,J3,J4,J5,J6,J7,J8,↓reduceIte,reduceCtorEq,jU hS];refine bE (α:=Unit) (fun _=>[(13,.one (.d (.int .i64 0))),(12,.one (.d (.int .i64 0))),(7,.one (.own 1 0 0)),(4,.one (.ptr 0 0))]) (fun _=>[.box [.fn nm []],.arr false k 0 []])
   (fun _=>True) (fun _=>0) ()
   (oC [(7,k)] [] [0,1] rfl rfl rfl rfl rfl rfl) trivial ?_
  intro _ _;have hs:=srt 0 [] (by simp);unfold dU at hs;simp only[kq5,kr7]at hs;have h00:((0:Int)<0)=False:=by simp
  simp -implicitDefEqProofs only[oS.d,J0,J1,J2,J3,J4,J5,J6,J7,J8,↓reduceIte,reduceCtorEq,h00,hne6];refine bJ [1,0] (hs) rfl rfl rfl ?_;rintro _ _ ⟨rfl,rs',rfl,rfl⟩;refine⟨_,_,rfl,?_⟩;simp -implicitDefEqProofs only[oS.d,J0,J1,J2,J3,J4,J5,J6,J7,J8,↓reduceIte,reduceCtorEq];apply aH [];rfl;rfl;exact⟨rfl,rfl⟩
 ·refine⟨_,_,rfl,?_⟩;simp -implicitDefEqProofs only[oS.d,J0,J1,J2,J3,J4,J5,J6,J7,J8,↓reduceIte,reduceCtorEq,jU hS,kr8];refine bE (α:=Nat×List α) (fun x=>[(13,.one (.d (.int .i64 x.1))),(12,.one (.d (.int .i64 l.length))),(7,.one (.own 1 1 l.length)),(2,.one (.fn fm [])),(4,.one (.ptr 0 0))]) (fun x=>[.box [.fn nm []],.arr false k 1 (x.2.map enc)])
   (fun x=>x.1≤l.length∧x.2=(l.take x.1).map g++l.drop x.1) (fun x=>l.length-x.1) (0,l)
   (aP [0,1] rfl rfl rfl rfl) ⟨kt1 _,rfl⟩ ?_
  rintro⟨i,l1⟩ ⟨hi,hl1⟩;simp only at hi hl1;have hll:l1.length=l.length:=by rw[hl1];simp;omega
  rcases ks3 i l.length with h|h
  ·have hc:((i:Int)<(l.length:Int))=True:=by simp;omega
   have w1:=bQ (a:=i) rfl (by omega);obtain⟨a,ha0⟩:=bK (l:=l) (i:=i) h;have e5:l1=(l.take i).map g++a::l.drop (i+1):=by rw[hl1,wV ha0]
   have ha:l1[i]?=some a:=by
    rw[e5,List.getElem?_append_right (by simp;omega)];simp[kC7 hi]
   have hnew:l1.set i (g a)=(l.take (i+1)).map g++l.drop (i+1):=by
    rw[e5,wW ha0,List.map_append,List.set_append_right _ _ (by simp;omega)];simp[kC7 hi]
   clear e5 hl1;have hx:(l1.map enc)[i]?=some (enc a):=by rw[List.getElem?_map,ha];rfl
   have hxk:=hk a;have l2:(i:Int)<(l.length:Int):=by omega
   have hyk:=hk (g a);simp -implicitDefEqProofs only[oS.d,J0,J1,J2,J3,J4,J5,J6,J7,J8,↓reduceIte,reduceCtorEq,iL hS rfl,cQ hE,dR hE,hc,l2,hx,hxk,kq2,kq4,kr8,jJ hxk];refine ka1 (hm a (List.mem_of_getElem? ha0)) ?_;simp -implicitDefEqProofs only[oS.d,J0,J1,J2,J3,J4,J5,J6,J7,J8,↓reduceIte,reduceCtorEq,iL hS rfl,cQ hE,dR hE,l2,hx,hxk,hyk,kq2,kq4,kr8,wS,wT,qR hxk,w1];refine⟨(i+1,l1.set i (g a)),⟨by show i+1≤l.length;omega,hnew⟩,by show l.length-(i+1)<l.length-i;omega,?_⟩;simp only[List.map_set];exact(aP [0,1] rfl rfl rfl rfl)
  ·have hc:((i:Int)<(l.length:Int))=False:=by simp;omega
   have hl2:l1=l.map g:=by rw[hl1,kq6 h,kw3 h,ku3]
   have hs:=srt 1 l1 (by omega);unfold dU at hs;rw[hll]at hs;simp -implicitDefEqProofs only[oS.d,J0,J1,J2,J3,J4,J5,J6,J7,J8,↓reduceIte,reduceCtorEq,hc,hne6];refine bJ [1,0] (hs) rfl rfl rfl ?_;rintro _ _ ⟨rfl,rs',rfl,rfl⟩;refine⟨_,_,rfl,?_⟩;simp -implicitDefEqProofs only[oS.d,J0,J1,J2,J3,J4,J5,J6,J7,J8,↓reduceIte,reduceCtorEq];apply aH [];rfl;rfl;refine⟨?_,rfl⟩;rw[hl2,kq6];rw[kr8,(zh7 wI (ky:=nf) (l.map g)).2.len,kr8];exact ks0 _
def Srt (s:Stx):Prop:=VC kp8 29 [stW s] [] fun r h'=>r=stW (bH ltN s)∧h'=[]
theorem ka3:lV 59 133 5:=⟨⟨_,_,_,_,pT,by decide,rfl,by decide⟩,⟨_,_,_,rR⟩⟩
theorem ka4 (a:Tym):(aD a).length=5:=by
 obtain⟨xn,⟨xk,xi,xl⟩,xc⟩:=a;rfl
theorem jg6 (a:Tym):VC kp8 84 [.agg ((aD a).map .d)] [] fun r h'=>r = .one (.d (.str (kyD (aD a))))∧h'=[]:=by
 obtain⟨xn,⟨xk,xi,xl⟩,xc⟩:=a;simp only[aD,aE,cA,bW,cU,cB,cZ,aF,aA,kr0,kr2,kq1,kq5];refine aU mixed jJ4 (by simp) ?_;show vwp kp8 0 zw5 _ [(0,.agg [.d (.str xn),.d (.int .i64 xk),.d (.int .i64 xi),.d (.sl (ks8 xl)),.d (.sl (xc.map bC))])] [];conv in zw5=>cbv
 rw[aO];simp -implicitDefEqProofs only[oS.d,J0,J1,J2,J3,J4,J5,J6,J7,J8,↓reduceIte,reduceCtorEq];apply aH [];rfl;rfl;exact⟨rfl,rfl⟩
theorem ka5:oK ltN 128 84 fun x=>∃a,x=aD a:=by
 rintro _ _ ⟨a,rfl⟩ ⟨b,rfl⟩;have na:=jg6 a;have nb:=jg6 b;generalize hka:kyD (aD a)=ka at *;generalize hkb:kyD (aD b)=kb at *;have nc:=za8 ka kb;have hlt:ltN ka kb=true↔cY ka.data.toList kb.data.toList<0:=by unfold ltN;exact decide_eq_true_iff
 generalize cY ka.data.toList kb.data.toList=c at *;clear hka hkb;obtain⟨xn,⟨xk,xi,xl⟩,xc⟩:=a;obtain⟨yn,⟨yk,yi,yl⟩,yc⟩:=b;simp only[aD,aE,cA,bW,cU,cB,cZ,aF,aA,kr0,kr2,kq1,kq5]at na nb ⊢;refine aU mixed jL3 (by simp) ?_;show vwp kp8 1 zy4 _ [(0,.agg [.d (.str xn),.d (.int .i64 xk),.d (.int .i64 xi),.d (.sl (ks8 xl)),.d (.sl (xc.map bC))]),(1,.agg [.d (.str yn),.d (.int .i64 yk),.d (.int .i64 yi),.d (.sl (ks8 yl)),.d (.sl (yc.map bC))]),(2,.one (.ptr 0 0))] [.box [.fn 84 []]];conv in zy4=>cbv
 rw[aO];simp -implicitDefEqProofs only[oS.d,J0,J1,J2,J3,J4,J5,J6,J7,J8,↓reduceIte,reduceCtorEq];refine aM [] na rfl rfl rfl rfl ?_;simp -implicitDefEqProofs only[oS.d,J0,J1,J2,J3,J4,J5,J6,J7,J8,↓reduceIte,reduceCtorEq];refine aM [] nb rfl rfl rfl rfl ?_;simp -implicitDefEqProofs only[oS.d,J0,J1,J2,J3,J4,J5,J6,J7,J8,↓reduceIte,reduceCtorEq];refine aM [] nc rfl rfl rfl rfl ?_;simp -implicitDefEqProofs only[oS.d,J0,J1,J2,J3,J4,J5,J6,J7,J8,↓reduceIte,reduceCtorEq];apply aH [0];rfl;rfl;exact⟨⟨_,rfl,hlt.symm⟩,rfl⟩
theorem ka6 (a:Tym):VC kp8 85 [.agg ((aD a).map .d)] [] fun r h'=>r = .agg ((aD a).map .d)∧h'=[]:=by
 obtain⟨xn,⟨xk,xi,xl⟩,xc⟩:=a;simp only[aD,aE,cA,bW,cU,cB,cZ,aF,aA,kr0,kr2,kq1,kq5];refine aU mixed jJ5 (by simp) ?_;show vwp kp8 0 zw6 _ [(0,.agg [.d (.str xn),.d (.int .i64 xk),.d (.int .i64 xi),.d (.sl (ks8 xl)),.d (.sl (xc.map bC))])] [];conv in zw6=>cbv
 rw[aO];simp -implicitDefEqProofs only[oS.d,J0,J1,J2,J3,J4,J5,J6,J7,J8,↓reduceIte,reduceCtorEq];apply aH []
 ·simp only[dI,iC,kx5,cond_true,cond_false,rR,cN,ks4,kr6,mkV,kw7,kr4,kr7,ks7,ks0,if_true,kv5,kw1,kq1,kq5,kw5];rfl
 ·first|rfl|(simp[fin,bO,bA,cF,bP,cW,bT,idx,dA,aG,cE,bD,ks9];first|exact⟨rfl,rfl⟩|exact⟨rfl,rfl,rfl⟩)
 exact⟨rfl,rfl⟩
theorem ka7:lV 60 126 5:=⟨⟨_,_,_,_,pU,by decide,rfl,by decide⟩,⟨_,_,_,rQ⟩⟩
theorem ka8 (a:Vam):(aE a).length=5:=by
 obtain⟨xn,xg,⟨xk,xi,xl⟩⟩:=a;rfl
theorem jg7 (a:Vam):VC kp8 87 [.agg ((aE a).map .d)] [] fun r h'=>r = .one (.d (.str (kyD (aE a))))∧h'=[]:=by
 obtain⟨xn,xg,⟨xk,xi,xl⟩⟩:=a;simp only[aD,aE,cA,bW,cU,cB,cZ,aF,aA,kr0,kr2,kq1,kq5];refine aU mixed jJ6 (by simp) ?_;show vwp kp8 0 zw7 _ [(0,.agg [.d (.str xn),.d (.int .i64 xg),.d (.int .i64 xk),.d (.int .i64 xi),.d (.sl (ks8 xl))])] [];conv in zw7=>cbv
 rw[aO];simp -implicitDefEqProofs only[oS.d,J0,J1,J2,J3,J4,J5,J6,J7,J8,↓reduceIte,reduceCtorEq];apply aH [];rfl;rfl;exact⟨rfl,rfl⟩
theorem ka9:oK ltN 132 87 fun x=>∃a,x=aE a:=by
 rintro _ _ ⟨a,rfl⟩ ⟨b,rfl⟩;have na:=jg7 a;have nb:=jg7 b;generalize hka:kyD (aE a)=ka at *;generalize hkb:kyD (aE b)=kb at *;have nc:=za8 ka kb;have hlt:ltN ka kb=true↔cY ka.data.toList kb.data.toList<0:=by unfold ltN;exact decide_eq_true_iff
 generalize cY ka.data.toList kb.data.toList=c at *;clear hka hkb;obtain⟨xn,xg,⟨xk,xi,xl⟩⟩:=a;obtain⟨yn,yg,⟨yk,yi,yl⟩⟩:=b;simp only[aD,aE,cA,bW,cU,cB,cZ,aF,aA,kr0,kr2,kq1,kq5]at na nb ⊢;refine aU mixed jL5 (by simp) ?_;show vwp kp8 1 zy6 _ [(0,.agg [.d (.str xn),.d (.int .i64 xg),.d (.int .i64 xk),.d (.int .i64 xi),.d (.sl (ks8 xl))]),(1,.agg [.d (.str yn),.d (.int .i64 yg),.d (.int .i64 yk),.d (.int .i64 yi),.d (.sl (ks8 yl))]),(2,.one (.ptr 0 0))] [.box [.fn 87 []]];conv in zy6=>cbv
 rw[aO];simp -implicitDefEqProofs only[oS.d,J0,J1,J2,J3,J4,J5,J6,J7,J8,↓reduceIte,reduceCtorEq];refine aM [] na rfl rfl rfl rfl ?_;simp -implicitDefEqProofs only[oS.d,J0,J1,J2,J3,J4,J5,J6,J7,J8,↓reduceIte,reduceCtorEq];refine aM [] nb rfl rfl rfl rfl ?_;simp -implicitDefEqProofs only[oS.d,J0,J1,J2,J3,J4,J5,J6,J7,J8,↓reduceIte,reduceCtorEq];refine aM [] nc rfl rfl rfl rfl ?_;simp -implicitDefEqProofs only[oS.d,J0,J1,J2,J3,J4,J5,J6,J7,J8,↓reduceIte,reduceCtorEq];apply aH [0];rfl;rfl;exact⟨⟨_,rfl,hlt.symm⟩,rfl⟩
theorem kb0 (a:Vam):VC kp8 88 [.agg ((aE a).map .d)] [] fun r h'=>r = .agg ((aE a).map .d)∧h'=[]:=by
 obtain⟨xn,xg,⟨xk,xi,xl⟩⟩:=a;simp only[aD,aE,cA,bW,cU,cB,cZ,aF,aA,kr0,kr2,kq1,kq5];refine aU mixed jJ7 (by simp) ?_;show vwp kp8 0 zw8 _ [(0,.agg [.d (.str xn),.d (.int .i64 xg),.d (.int .i64 xk),.d (.int .i64 xi),.d (.sl (ks8 xl))])] [];conv in zw8=>cbv
 rw[aO];simp -implicitDefEqProofs only[oS.d,J0,J1,J2,J3,J4,J5,J6,J7,J8,↓reduceIte,reduceCtorEq];apply aH []
 ·simp only[dI,iC,kx5,cond_true,cond_false,rQ,cN,ks4,kr6,mkV,kw7,kr4,kr7,ks7,ks0,if_true,kv5,kw1,kq1,kq5,kw5];rfl
 ·first|rfl|(simp[fin,bO,bA,cF,bP,cW,bT,idx,dA,aG,cE,bD,ks9];first|exact⟨rfl,rfl⟩|exact⟨rfl,rfl,rfl⟩)
 exact⟨rfl,rfl⟩
theorem kb1:lV 61 140 6:=⟨⟨_,_,_,_,nI,by decide,rfl,by decide⟩,⟨_,_,_,mI⟩⟩
theorem kb2 (a:ByteArray×Stx):(cA a).length=6:=by
 obtain⟨xn,⟨xa1,xa2,xa3,xa4,xa5⟩⟩:=a;rfl
theorem jg8 (a:ByteArray×Stx):VC kp8 90 [.agg ((cA a).map .d)] [] fun r h'=>r = .one (.d (.str (kyD (cA a))))∧h'=[]:=by
 obtain⟨xn,⟨xa1,xa2,xa3,xa4,xa5⟩⟩:=a;simp only[aD,aE,cA,bW,cU,cB,cZ,aF,aA,kr0,kr2,kq1,kq5];refine aU mixed jJ8 (by simp) ?_;show vwp kp8 0 zw9 _ [(0,.agg [.d (.str xn),.d (.sl (xa1.map aD)),.d (.sl (xa2.map aE)),.d (.sl (kq7 xa3)),.d (.sl (kq8 xa4)),.d (.sl (kq9 xa5))])] [];conv in zw9=>cbv
 rw[aO];simp -implicitDefEqProofs only[oS.d,J0,J1,J2,J3,J4,J5,J6,J7,J8,↓reduceIte,reduceCtorEq];apply aH [];rfl;rfl;exact⟨rfl,rfl⟩
theorem kb3:oK ltN 135 90 fun x=>∃a,x=cA a:=by
 rintro _ _ ⟨a,rfl⟩ ⟨b,rfl⟩;have na:=jg8 a;have nb:=jg8 b;generalize hka:kyD (cA a)=ka at *;generalize hkb:kyD (cA b)=kb at *;have nc:=za8 ka kb;have hlt:ltN ka kb=true↔cY ka.data.toList kb.data.toList<0:=by unfold ltN;exact decide_eq_true_iff
 generalize cY ka.data.toList kb.data.toList=c at *;clear hka hkb;obtain⟨xn,⟨xa1,xa2,xa3,xa4,xa5⟩⟩:=a;obtain⟨yn,⟨ya1,ya2,ya3,ya4,ya5⟩⟩:=b;simp only[aD,aE,cA,bW,cU,cB,cZ,aF,aA,kr0,kr2,kq1,kq5]at na nb ⊢;refine aU mixed jL6 (by simp) ?_;show vwp kp8 1 zy7 _ [(0,.agg [.d (.str xn),.d (.sl (xa1.map aD)),.d (.sl (xa2.map aE)),.d (.sl (kq7 xa3)),.d (.sl (kq8 xa4)),.d (.sl (kq9 xa5))]),(1,.agg [.d (.str yn),.d (.sl (ya1.map aD)),.d (.sl (ya2.map aE)),.d (.sl (kq7 ya3)),.d (.sl (kq8 ya4)),.d (.sl (kq9 ya5))]),(2,.one (.ptr 0 0))] [.box [.fn 90 []]];conv in zy7=>cbv
 rw[aO];simp -implicitDefEqProofs only[oS.d,J0,J1,J2,J3,J4,J5,J6,J7,J8,↓reduceIte,reduceCtorEq];refine aM [] na rfl rfl rfl rfl ?_;simp -implicitDefEqProofs only[oS.d,J0,J1,J2,J3,J4,J5,J6,J7,J8,↓reduceIte,reduceCtorEq];refine aM [] nb rfl rfl rfl rfl ?_;simp -implicitDefEqProofs only[oS.d,J0,J1,J2,J3,J4,J5,J6,J7,J8,↓reduceIte,reduceCtorEq];refine aM [] nc rfl rfl rfl rfl ?_;simp -implicitDefEqProofs only[oS.d,J0,J1,J2,J3,J4,J5,J6,J7,J8,↓reduceIte,reduceCtorEq];apply aH [0];rfl;rfl;exact⟨⟨_,rfl,hlt.symm⟩,rfl⟩
theorem kb4:lV 62 161 13:=⟨⟨_,_,_,_,pV,by decide,rfl,by decide⟩,⟨_,_,_,rS⟩⟩
theorem kb5 (a:ByteArray×FnE):(bW a).length=13:=by
 obtain⟨xn,xl,⟨xa1,xa2,xa3,xa4,xa5⟩,xm,⟨xb1,xb2,xb3,xb4,xb5⟩⟩:=a;rfl
theorem jg9 (a:ByteArray×FnE):VC kp8 93 [.agg ((bW a).map .d)] [] fun r h'=>r = .one (.d (.str (kyD (bW a))))∧h'=[]:=by
 obtain⟨xn,xl,⟨xa1,xa2,xa3,xa4,xa5⟩,xm,⟨xb1,xb2,xb3,xb4,xb5⟩⟩:=a;simp only[aD,aE,cA,bW,cU,cB,cZ,aF,aA,kr0,kr2,kq1,kq5];refine aU mixed jK0 (by simp) ?_;show vwp kp8 0 zx1 _ [(0,.agg [.d (.str xn),.d (.sl (nums xl)),.d (.sl (xa1.map aD)),.d (.sl (xa2.map aE)),.d (.sl (kq7 xa3)),.d (.sl (kq8 xa4)),.d (.sl (kq9 xa5)),.d (.sl (nums xm)),.d (.sl (xb1.map aD)),.d (.sl (xb2.map aE)),.d (.sl (kq7 xb3)),.d (.sl (kq8 xb4)),.d (.sl (kq9 xb5))])] [];conv in zx1=>cbv
 rw[aO];simp -implicitDefEqProofs only[oS.d,J0,J1,J2,J3,J4,J5,J6,J7,J8,↓reduceIte,reduceCtorEq];apply aH [];rfl;rfl;exact⟨rfl,rfl⟩
theorem kb6:oK ltN 138 93 fun x=>∃a,x=bW a:=by
 rintro _ _ ⟨a,rfl⟩ ⟨b,rfl⟩;have na:=jg9 a;have nb:=jg9 b;generalize hka:kyD (bW a)=ka at *;generalize hkb:kyD (bW b)=kb at *;have nc:=za8 ka kb;have hlt:ltN ka kb=true↔cY ka.data.toList kb.data.toList<0:=by unfold ltN;exact decide_eq_true_iff
 generalize cY ka.data.toList kb.data.toList=c at *;clear hka hkb;obtain⟨xn,xl,⟨xa1,xa2,xa3,xa4,xa5⟩,xm,⟨xb1,xb2,xb3,xb4,xb5⟩⟩:=a;obtain⟨yn,yl,⟨ya1,ya2,ya3,ya4,ya5⟩,ym,⟨yb1,yb2,yb3,yb4,yb5⟩⟩:=b;simp only[aD,aE,cA,bW,cU,cB,cZ,aF,aA,kr0,kr2,kq1,kq5]at na nb ⊢;refine aU mixed jL7 (by simp) ?_;show vwp kp8 1 zy8 _ [(0,.agg [.d (.str xn),.d (.sl (nums xl)),.d (.sl (xa1.map aD)),.d (.sl (xa2.map aE)),.d (.sl (kq7 xa3)),.d (.sl (kq8 xa4)),.d (.sl (kq9 xa5)),.d (.sl (nums xm)),.d (.sl (xb1.map aD)),.d (.sl (xb2.map aE)),.d (.sl (kq7 xb3)),.d (.sl (kq8 xb4)),.d (.sl (kq9 xb5))]),(1,.agg [.d (.str yn),.d (.sl (nums yl)),.d (.sl (ya1.map aD)),.d (.sl (ya2.map aE)),.d (.sl (kq7 ya3)),.d (.sl (kq8 ya4)),.d (.sl (kq9 ya5)),.d (.sl (nums ym)),.d (.sl (yb1.map aD)),.d (.sl (yb2.map aE)),.d (.sl (kq7 yb3)),.d (.sl (kq8 yb4)),.d (.sl (kq9 yb5))]),(2,.one (.ptr 0 0))] [.box [.fn 93 []]];conv in zy8=>cbv
 rw[aO];simp -implicitDefEqProofs only[oS.d,J0,J1,J2,J3,J4,J5,J6,J7,J8,↓reduceIte,reduceCtorEq];refine aM [] na rfl rfl rfl rfl ?_;simp -implicitDefEqProofs only[oS.d,J0,J1,J2,J3,J4,J5,J6,J7,J8,↓reduceIte,reduceCtorEq];refine aM [] nb rfl rfl rfl rfl ?_;simp -implicitDefEqProofs only[oS.d,J0,J1,J2,J3,J4,J5,J6,J7,J8,↓reduceIte,reduceCtorEq];refine aM [] nc rfl rfl rfl rfl ?_;simp -implicitDefEqProofs only[oS.d,J0,J1,J2,J3,J4,J5,J6,J7,J8,↓reduceIte,reduceCtorEq];apply aH [0];rfl;rfl;exact⟨⟨_,rfl,hlt.symm⟩,rfl⟩
theorem kb7:lV 63 162 7:=⟨⟨_,_,_,_,pW,by decide,rfl,by decide⟩,⟨_,_,_,rT⟩⟩
theorem kb8 (a:iN):(cB a).length=7:=by
 obtain⟨xn,xl,⟨xa1,xa2,xa3,xa4,xa5⟩⟩:=a;rfl
theorem jh0 (a:iN):VC kp8 96 [.agg ((cB a).map .d)] [] fun r h'=>r = .one (.d (.str (kyD (cB a))))∧h'=[]:=by
 obtain⟨xn,xl,⟨xa1,xa2,xa3,xa4,xa5⟩⟩:=a;simp only[aD,aE,cA,bW,cU,cB,cZ,aF,aA,kr0,kr2,kq1,kq5];refine aU mixed jK2 (by simp) ?_;show vwp kp8 0 zx3 _ [(0,.agg [.d (.str xn),.d (.sl (nums xl)),.d (.sl (xa1.map aD)),.d (.sl (xa2.map aE)),.d (.sl (kq7 xa3)),.d (.sl (kq8 xa4)),.d (.sl (kq9 xa5))])] [];conv in zx3=>cbv
 rw[aO];simp -implicitDefEqProofs only[oS.d,J0,J1,J2,J3,J4,J5,J6,J7,J8,↓reduceIte,reduceCtorEq];apply aH [];rfl;rfl;exact⟨rfl,rfl⟩
theorem kb9:oK ltN 141 96 fun x=>∃a,x=cB a:=by
 rintro _ _ ⟨a,rfl⟩ ⟨b,rfl⟩;have na:=jh0 a;have nb:=jh0 b;generalize hka:kyD (cB a)=ka at *;generalize hkb:kyD (cB b)=kb at *;have nc:=za8 ka kb;have hlt:ltN ka kb=true↔cY ka.data.toList kb.data.toList<0:=by unfold ltN;exact decide_eq_true_iff
 generalize cY ka.data.toList kb.data.toList=c at *;clear hka hkb;obtain⟨xn,xl,⟨xa1,xa2,xa3,xa4,xa5⟩⟩:=a;obtain⟨yn,yl,⟨ya1,ya2,ya3,ya4,ya5⟩⟩:=b;simp only[aD,aE,cA,bW,cU,cB,cZ,aF,aA,kr0,kr2,kq1,kq5]at na nb ⊢;refine aU mixed jL8 (by simp) ?_;show vwp kp8 1 zy9 _ [(0,.agg [.d (.str xn),.d (.sl (nums xl)),.d (.sl (xa1.map aD)),.d (.sl (xa2.map aE)),.d (.sl (kq7 xa3)),.d (.sl (kq8 xa4)),.d (.sl (kq9 xa5))]),(1,.agg [.d (.str yn),.d (.sl (nums yl)),.d (.sl (ya1.map aD)),.d (.sl (ya2.map aE)),.d (.sl (kq7 ya3)),.d (.sl (kq8 ya4)),.d (.sl (kq9 ya5))]),(2,.one (.ptr 0 0))] [.box [.fn 96 []]];conv in zy9=>cbv
 rw[aO];simp -implicitDefEqProofs only[oS.d,J0,J1,J2,J3,J4,J5,J6,J7,J8,↓reduceIte,reduceCtorEq];refine aM [] na rfl rfl rfl rfl ?_;simp -implicitDefEqProofs only[oS.d,J0,J1,J2,J3,J4,J5,J6,J7,J8,↓reduceIte,reduceCtorEq];refine aM [] nb rfl rfl rfl rfl ?_;simp -implicitDefEqProofs only[oS.d,J0,J1,J2,J3,J4,J5,J6,J7,J8,↓reduceIte,reduceCtorEq];refine aM [] nc rfl rfl rfl rfl ?_;simp -implicitDefEqProofs only[oS.d,J0,J1,J2,J3,J4,J5,J6,J7,J8,↓reduceIte,reduceCtorEq];apply aH [0];rfl;rfl;exact⟨⟨_,rfl,hlt.symm⟩,rfl⟩
theorem kc0 (a:ByteArray×Stx) (H:Srt a.2):VC kp8 91 [.agg ((cA a).map .d)] [] fun r h'=>r = .agg ((cA (a.1,bH ltN a.2)).map .d)∧h'=[]:=by
 obtain⟨xn,⟨xa1,xa2,xa3,xa4,xa5⟩⟩:=a;unfold Srt at H;simp only at H ⊢;generalize bH ltN (.mk xa1 xa2 xa3 xa4 xa5)=Z at *;obtain⟨a,b,c,d,e⟩:=Z;simp only[aD,aE,cA,bW,cU,cB,cZ,aF,aA,stW,kr0,kr2,kq1,kq5]at H ⊢;refine aU mixed jJ9 (by simp) ?_;show vwp kp8 0 zx0 _ [(0,.agg [.d (.str xn),.d (.sl (xa1.map aD)),.d (.sl (xa2.map aE)),.d (.sl (kq7 xa3)),.d (.sl (kq8 xa4)),.d (.sl (kq9 xa5))])] [];conv in zx0=>cbv
 rw[aO];simp -implicitDefEqProofs only[oS.d,J0,J1,J2,J3,J4,J5,J6,J7,J8,↓reduceIte,reduceCtorEq];refine aM [] H rfl rfl rfl rfl ?_;simp -implicitDefEqProofs only[oS.d,J0,J1,J2,J3,J4,J5,J6,J7,J8,↓reduceIte,reduceCtorEq];apply aH []
 ·simp only[dI,iC,kx5,cond_true,cond_false,mI,kI,ti9,cN,ks4,kr6,mkV,kw7,kr4,kr7,ks7,ks0,if_true,kv5,kw1,kq1,kq5,kw5];rfl
 ·first|rfl|(simp[fin,bO,bA,cF,bP,cW,bT,idx,dA,aG,cE,bD,ks9];first|exact⟨rfl,rfl⟩|exact⟨rfl,rfl,rfl⟩)
 exact⟨rfl,rfl⟩
theorem kc1 (a:ByteArray×FnE) (H:Srt a.2.2.1) (H2:Srt a.2.2.2.2):VC kp8 94 [.agg ((bW a).map .d)] [] fun r h'=>r = .agg ((bW (a.1,a.2.1,bH ltN a.2.2.1,a.2.2.2.1,bH ltN a.2.2.2.2)).map .d)∧h'=[]:=by
 obtain⟨xn,xl,⟨xa1,xa2,xa3,xa4,xa5⟩,xm,⟨xb1,xb2,xb3,xb4,xb5⟩⟩:=a;unfold Srt at H H2;simp only at H H2 ⊢;generalize bH ltN (.mk xa1 xa2 xa3 xa4 xa5)=Z at *;generalize bH ltN (.mk xb1 xb2 xb3 xb4 xb5)=Z2 at *;obtain⟨a,b,c,d,e⟩:=Z;obtain⟨a2,b2,c2,d2,e2⟩:=Z2;simp only[aD,aE,cA,bW,cU,cB,cZ,aF,aA,stW,kr0,kr2,kq1,kq5]at H H2 ⊢;refine aU mixed jK1 (by simp) ?_;show vwp kp8 0 zx2 _ [(0,.agg [.d (.str xn),.d (.sl (nums xl)),.d (.sl (xa1.map aD)),.d (.sl (xa2.map aE)),.d (.sl (kq7 xa3)),.d (.sl (kq8 xa4)),.d (.sl (kq9 xa5)),.d (.sl (nums xm)),.d (.sl (xb1.map aD)),.d (.sl (xb2.map aE)),.d (.sl (kq7 xb3)),.d (.sl (kq8 xb4)),.d (.sl (kq9 xb5))])] [];conv in zx2=>cbv
 rw[aO];simp -implicitDefEqProofs only[oS.d,J0,J1,J2,J3,J4,J5,J6,J7,J8,↓reduceIte,reduceCtorEq];refine aM [] H rfl rfl rfl rfl ?_;simp -implicitDefEqProofs only[oS.d,J0,J1,J2,J3,J4,J5,J6,J7,J8,↓reduceIte,reduceCtorEq];refine aM [] H2 rfl rfl rfl rfl ?_;simp -implicitDefEqProofs only[oS.d,J0,J1,J2,J3,J4,J5,J6,J7,J8,↓reduceIte,reduceCtorEq];apply aH []
 ·simp only[dI,iC,kx5,cond_true,cond_false,rS,kI,iM,rP,ti9,cN,ks4,kr6,mkV,kw7,kr4,kr7,ks7,ks0,if_true,kv5,kw1,kq1,kq5,kw5];rfl
 ·first|rfl|(simp[fin,bO,bA,cF,bP,cW,bT,idx,dA,aG,cE,bD,ks9];first|exact⟨rfl,rfl⟩|exact⟨rfl,rfl,rfl⟩)
 exact⟨rfl,rfl⟩
theorem kc2 (a:iN) (H:Srt a.2.2):VC kp8 97 [.agg ((cB a).map .d)] [] fun r h'=>r = .agg ((cB (a.1,a.2.1,bH ltN a.2.2)).map .d)∧h'=[]:=by
 obtain⟨xn,xl,⟨xa1,xa2,xa3,xa4,xa5⟩⟩:=a;unfold Srt at H;simp only at H ⊢;generalize bH ltN (.mk xa1 xa2 xa3 xa4 xa5)=Z at *;obtain⟨a,b,c,d,e⟩:=Z;simp only[aD,aE,cA,bW,cU,cB,cZ,aF,aA,stW,kr0,kr2,kq1,kq5]at H ⊢;refine aU mixed jK3 (by simp) ?_;show vwp kp8 0 zx4 _ [(0,.agg [.d (.str xn),.d (.sl (nums xl)),.d (.sl (xa1.map aD)),.d (.sl (xa2.map aE)),.d (.sl (kq7 xa3)),.d (.sl (kq8 xa4)),.d (.sl (kq9 xa5))])] [];conv in zx4=>cbv
 rw[aO];simp -implicitDefEqProofs only[oS.d,J0,J1,J2,J3,J4,J5,J6,J7,J8,↓reduceIte,reduceCtorEq];refine aM [] H rfl rfl rfl rfl ?_;simp -implicitDefEqProofs only[oS.d,J0,J1,J2,J3,J4,J5,J6,J7,J8,↓reduceIte,reduceCtorEq];apply aH []
 ·simp only[dI,iC,kx5,cond_true,cond_false,rT,kI,iM,ti9,cN,ks4,kr6,mkV,kw7,kr4,kr7,ks7,ks0,if_true,kv5,kw1,kq1,kq5,kw5];rfl
 ·first|rfl|(simp[fin,bO,bA,cF,bP,cW,bT,idx,dA,aG,cE,bD,ks9];first|exact⟨rfl,rfl⟩|exact⟨rfl,rfl,rfl⟩)
 exact⟨rfl,rfl⟩
theorem kc3:∀s:Stx,stn s<1000000000→Srt s:=by
 intro s;induction s using Stx.ind with
 |h s1 s2 s3 s4 s5 i1 i2 i3=>
 intro hN;simp only[stn]at hN;have hl1:=eC (f:=dC) (fun t=>by unfold dC;omega) s1;have hl2:=eC (f:=dJ) (fun t=>by unfold dJ;omega) s2;have hl3:=zF4 s3;have hl4:=zF5 s4;have hl5:=zF6 s5;have c1:=za9 aD (·.name) (fun a=>a) ka4 (fun a=>by first|rfl|(obtain⟨xn,⟨xk,xi,xl⟩,xc⟩:=a;rfl)) ka3 ka5 jS2 jS0 jS1 jS3 jS4 jS5 jS6 jS7 jF6 (by decide) (by decide) (by decide) (by decide) (by decide) (by decide) (by decide) (fm:=85) s1 (fun a _=>ka6 a) (by omega);have c2:=za9 aE (·.name) (fun a=>a) ka8 (fun a=>by first|rfl|(obtain⟨xn,xg,⟨xk,xi,xl⟩⟩:=a;rfl)) ka7 ka9 jT0 jS8 jS9 jT1 jT2 jT3 jT4 jT5 jF7 (by decide) (by decide) (by decide) (by decide) (by decide) (by decide) (by decide) (fm:=88) s2 (fun a _=>kb0 a) (by omega);have c3:=za9 cA (·.1) (fun a=>(a.1,bH ltN a.2)) kb2 (fun a=>by first|rfl|(obtain⟨xn,⟨xa1,xa2,xa3,xa4,xa5⟩⟩:=a;rfl)) kb1 kb3 jT8 jT6 jT7 jT9 jU0 jU1 jU2 jU3 jF8 (by decide) (by decide) (by decide) (by decide) (by decide) (by decide) (by decide) (fm:=91) s3 (fun a ha=>kc0 a (i1 a ha (by have:=wC ha;omega))) (by omega);have c4:=za9 bW (·.1) (fun a=>(a.1,a.2.1,bH ltN a.2.2.1,a.2.2.2.1,bH ltN a.2.2.2.2)) kb5 (fun a=>by first|rfl|(obtain⟨xn,xl,⟨xa1,xa2,xa3,xa4,xa5⟩,xm,⟨xb1,xb2,xb3,xb4,xb5⟩⟩:=a;rfl)) kb4 kb6 jU6 jU4 jU5 jU7 jU8 jU9 jV0 jV1 jF9 (by decide) (by decide) (by decide) (by decide) (by decide) (by decide) (by decide) (fm:=94) s4 (fun a ha=>kc1 a ((i2 a ha).1 (by have:=oF ha;omega)) ((i2 a ha).2 (by have:=oF ha;omega))) (by omega);have c5:=za9 cB (·.1) (fun a=>(a.1,a.2.1,bH ltN a.2.2)) kb8 (fun a=>by first|rfl|(obtain⟨xn,xl,⟨xa1,xa2,xa3,xa4,xa5⟩⟩:=a;rfl)) kb7 kb9 jV4 jV2 jV3 jV5 jV6 jV7 jV8 jV9 jG0 (by decide) (by decide) (by decide) (by decide) (by decide) (by decide) (by decide) (fm:=97) s5 (fun a ha=>kc2 a (i3 a ha (by have:=tT ha;omega))) (by omega);rw[List.map_id']at c1 c2;rw[←qA,←qA,←sB]at c3;rw[←lR,←lR,←sC]at c4;rw[←lS,←lS,←sD]at c5;unfold Srt;simp only[bH,stW,aA,kq1,kq5];generalize dV ltN (fun x=>x.name) s1=z1 at *;generalize dV ltN (fun x=>x.name) s2=z2 at *;generalize dV ltN (fun x=>x.1) (bH.goS ltN s3)=z3 at *;generalize dV ltN (fun x=>x.1) (bH.goF ltN s4)=z4 at *;generalize dV ltN (fun x=>x.1) (bH.goG ltN s5)=z5 at *;refine aU mixed jI6 (by simp) ?_;show vwp kp8 0 zv7 _ [(0,.agg [.d (.sl (s1.map aD)),.d (.sl (s2.map aE)),.d (.sl (kq7 s3)),.d (.sl (kq8 s4)),.d (.sl (kq9 s5))])] [];conv in zv7=>cbv
 rw[aO];simp -implicitDefEqProofs only[oS.d,J0,J1,J2,J3,J4,J5,J6,J7,J8,↓reduceIte,reduceCtorEq];refine aM [] c1 rfl rfl rfl rfl ?_;simp -implicitDefEqProofs only[oS.d,J0,J1,J2,J3,J4,J5,J6,J7,J8,↓reduceIte,reduceCtorEq];refine aM [] c2 rfl rfl rfl rfl ?_;simp -implicitDefEqProofs only[oS.d,J0,J1,J2,J3,J4,J5,J6,J7,J8,↓reduceIte,reduceCtorEq];refine aM [] c3 rfl rfl rfl rfl ?_;simp -implicitDefEqProofs only[oS.d,J0,J1,J2,J3,J4,J5,J6,J7,J8,↓reduceIte,reduceCtorEq];refine aM [] c4 rfl rfl rfl rfl ?_;simp -implicitDefEqProofs only[oS.d,J0,J1,J2,J3,J4,J5,J6,J7,J8,↓reduceIte,reduceCtorEq];refine aM [] c5 rfl rfl rfl rfl ?_;simp -implicitDefEqProofs only[oS.d,J0,J1,J2,J3,J4,J5,J6,J7,J8,↓reduceIte,reduceCtorEq];apply aH []
 ·simp only[dI,iC,kx5,cond_true,cond_false,pT,pU,nI,pV,pW,kI,cN,ks4,kr6,mkV,kw7,kr4,kr7,ks7,ks0,if_true,kv5,kw1,kq1,kq5,kw5];rfl
 ·first|rfl|(simp[fin,bO,bA,cF,bP,cW,bT,idx,dA,aG,cE,bD,ks9];first|exact⟨rfl,rfl⟩|exact⟨rfl,rfl,rfl⟩)
 exact⟨rfl,rfl⟩
section
variable {P:Program} {h:aB} {K:Kn (V×aB)}
theorem kc4 {f:FuncId} {avs:List V} {H:aB} {Post:V→aB→Prop} (bs:List (Nat×Nat×Nat)) (e:eP h bs=some H) (hc:VC P f avs H Post) (hcl:Clo H.length H) (hv:∀v∈avs,clV H.length v)
  (hk:∀r h',Post r h'→H.length≤h'.length∧K.run (r,h')):@kE _ P f avs h K:=by
 obtain⟨a,b⟩:=zj5 (h:=H) hv;refine nZ bs avs H (List.range H.length) e (ko6 _) (ko1 _) hc (nodup_range _) a (zj4 hcl) fun r hs' hp=>?_;obtain⟨hl,hkr⟩:=hk r hs' hp;refine⟨r,hs',?_,hkr⟩;unfold mE;rw[b];split
 ·rename_i hx;simp only[Bool.and_eq_true,List.isEmpty_iff,List.range_eq_nil]at hx;obtain⟨⟨h0,_⟩,h1⟩:=hx;have:H=[]:=List.length_eq_zero_iff.1 h0;rw[this,h1]
 ·simp only[zK9,zK8,eB];rw[List.length_range,jd1 _ _ hl]
end
theorem jh1 {x y z:aI} {fr:List Int} {nx:Int} {bd:L} {N:List Int}:st [x,y,z,.dead] (cn 2 fr nx bd [] [] N)=[x,y,.box [.d (.sl (nums fr)),.d (.int .i64 nx),bd],.dead]:=by
 simp[st,cn,Vt.idx]
theorem zb0 (q:List Int) (y:Stx) (hq:q.length<10000000) (hy:stn y<10000000):VC kp8 34 [abW q y] [] fun r h'=>r=abW (cG ltN (q,y)).1 (cG ltN (q,y)).2∧h'=[]:=by
 have c1:=wR q y hq hy;have c2:=kc3 y (by omega);have hf:=(uF (tk:=[]) (sb:=id) (q,y) hy (by simp)).2;have hfl:(bX (q,y)).length≤stn y:=hf;have hss:=zP ltN y;have hb:=uF (tk:=bX (q,y)) (sb:=id) (q,bH ltN y) (by simp only;omega) (by omega);have hcs:=j87 (fr:=bX (q,y)) (by omega) (bH ltN y) (by omega);have c3:=fun(x0 x1 x2:aI) (h0:bD (lt 4) x0=some x0) (h1:bD (lt 4) x1=some x1) (h2:bD (lt 4) x2=some x2)=>zM5 (l:=q) hcs [x0,x1,x2,.dead] 2 3 [] none [] w0
  { cl:=dS.2 ⟨h0,dS.2 ⟨h1,dS.2 ⟨h2,dS.2 ⟨rfl,eE.2 trivial⟩⟩⟩⟩,c_:=by simp,ms_:=by simp,nd:=rfl,cm:=by simp,ha:=rfl,ac:=by simp,am:=by simp,b_:=fun _=>rfl,lA:=rfl,lN:=rfl }
  (by simp;omega) ⟨⟨fun i j k h=>by simp[w0]at h,by simp[w0]⟩,by simp[w0],Int.le_refl _⟩ hb.1
 unfold Srt at c2;unfold cG;simp only;generalize bX (q,y)=fr at c1 c3;generalize bH ltN y=t at c2 c3;generalize cL fr id [] (q,t) w0=R at c3;obtain⟨⟨r0,⟨r1,r2,r3,r4,r5⟩⟩,w1⟩:=R;obtain⟨y1,y2,y3,y4,y5⟩:=y;obtain⟨t1,t2,t3,t4,t5⟩:=t;simp only[jh1,w0,bdL]at c3;simp only[abW,stW,aA,kq1,kq5]at c1 c2 c3 ⊢;refine aU mixed jI9 (by simp) ?_;show vwp kp8 0 zw0 _ [(0,.agg [.d (.sl (nums q)),.d (.sl (y1.map aD)),.d (.sl (y2.map aE)),.d (.sl (kq7 y3)),.d (.sl (kq8 y4)),.d (.sl (kq9 y5))])] [];conv in zw0=>cbv
 rw[aO];simp -implicitDefEqProofs only[oS.d,J0,J1,J2,J3,J4,J5,J6,J7,J8,↓reduceIte,reduceCtorEq];refine aM [] c1 rfl rfl rfl rfl ?_;simp -implicitDefEqProofs only[oS.d,J0,J1,J2,J3,J4,J5,J6,J7,J8,↓reduceIte,reduceCtorEq];refine aM [] c2 rfl rfl rfl rfl ?_;simp -implicitDefEqProofs only[oS.d,J0,J1,J2,J3,J4,J5,J6,J7,J8,↓reduceIte,reduceCtorEq];refine kc4 [(3,0,0)] rfl (c3 _ _ (.box [.d (.sl (nums fr)),.d (.int .i64 0),.nils]) rfl rfl rfl) (dS.2 ⟨rfl,dS.2 ⟨rfl,dS.2 ⟨rfl,dS.2 ⟨rfl,eE.2 trivial⟩⟩⟩⟩) (fun v hv=>by
  simp only[List.mem_cons,List.not_mem_nil,or_false]at hv;rcases hv with rfl|rfl
  ·exact eA.2 (by simp)
  ·simp[clV,clL,aG]) ?_
 rintro _ _ ⟨rfl,b',hb',rfl⟩;refine⟨by simp[cD],?_⟩;simp only[List.set_cons_succ,List.set_cons_zero,jh1,kr0,kr2];simp -implicitDefEqProofs only[oS.d,J0,J1,J2,J3,J4,J5,J6,J7,J8,↓reduceIte,reduceCtorEq];apply aH []
 ·simp only[dI,iC,kx5,cond_true,cond_false,kI,iM,nJ,cN,ks4,kr6,mkV,kw7,kr4,kr7,ks7,ks0,if_true,kv5,kw1,kq1,kq5,kw5];rfl
 ·first|rfl|(simp[fin,bO,bA,cF,bP,cW,bT,idx,dA,aG,cE,bD,ks9];first|exact⟨rfl,rfl⟩|exact⟨rfl,rfl,rfl⟩)
 exact⟨rfl,rfl⟩
end Go.Vt.Tryz
