import Derived.Test.YtdabfkmhkoppcaaGreatDoorVtO2
import Derived.Test.YtdabfkmhkoppcaaGreatDoorVtA8
import Derived.Test.YtdabfkmhkoppcaaGreatDoorVtC9
import Derived.Test.YtdabfkmhkoppcaaGreatDoorVtW9
set_option linter.all false
set_option maxHeartbeats 4000000
set_option maxRecDepth 100000
open Bool renaming false_or→kt8
open Int renaming natCast_nonneg→kd8,toNat_natCast→kd9
open List renaming append_assoc→kf1,append_nil→ki0,cons_append→kg6,drop_append→kx0,drop_drop→kx4,drop_of_length_le→kh2,drop_zero→kj7,getElem?_cons_succ→kf9,getElem?_cons_zero→kf5,length_append→ke1,length_cons→kf6,length_drop→kl6,length_map→ke9,length_nil→kg0,length_take→kg2,map_cons→ke5,map_nil→ke8,mem_map→kn1,nil_append→kh0,take_append_drop→ki5,take_append_of_le_length→kl7,take_nil→kt9,take_of_length_le→ke0,take_succ_cons→ki2,take_zero→kj3
open Nat renaming add_mul→ks9,le_refl→kf2,lt_or_ge→kf3,lt_trichotomy→ks5,min_eq_left→kq3,mul_assoc→ky3,mul_comm→kr5,mul_le_mul_right→kj2,not_lt_zero→kj6,one_mul→ky0,reduceAdd→kg8,reduceBEq→kk6,succ_le_of_lt→kx1,succ_mul→kr0,zero_le→kg1
open Go.Proofs.Tryz renaming prog→kd5
open Go.Vt.aA renaming funs→ke2,sigs→ke4,subs→ke3
open Go.Vt.aG renaming encs→kf0
open Go.Vt.aJ renaming renLs→kg3
open Go.Vt renaming mkV→J1
open Nat renaming reduceBEq→J2,reduceLeDiff→J5,reduceAdd→J6,reduceSub→J8
namespace Go.Vt.Tryz
open Go.Proofs Go.Vt.Al
theorem vN {α:Type} {P T:List α} {i n:Nat} (h:i+n≤P.length):((P++T).drop i).take n=(P.drop i).take n:=by
 rw[List.drop_append_of_le_length (by omega),kl7 (by simp;omega)]
theorem zh2 {α:Type} {P Z S:List α} {n:Nat} (h:Z.length=n∨(S=[]∧Z.length≤n)):((P++(Z++S)).drop P.length).take n=Z:=by
 rw[List.drop_left];rcases h with h|⟨rfl,h⟩
 ·rw[kl7 (by omega),ke0 (by omega)]
 ·rw[ki0,ke0 h]
theorem j53 {α:Type} {P Z W S:List α} {i:Nat} (h:Z.length=W.length) (hi:P.length+Z.length≤i):(P++(Z++S)).drop i=(P++(W++S)).drop i:=by
 rw[←kf1,←kf1,kx0 (l₁:=P++Z),kx0 (l₁:=P++W),kh2 (l:=P++Z) (by rw[ke1];omega),kh2 (l:=P++W) (by rw[ke1];omega),ke1,ke1,h]
theorem zI0 {α:Type} (l:List α) (a n:Nat):l=l.take a++((l.drop a).take n++l.drop (a+n)):=by
 rw[←kx4,ki5,ki5]
section
variable {tS tE tF:TypeId} {k:Nat} {fc nm:FuncId} {R:List D→Prop} {ver:Nat} {lt:ByteArray→ByteArray→Bool}
theorem zI1:Srd lt kyD []:=List.Pairwise.nil
theorem j54 (hlt:gQ lt) (H:kX tS tE k) (hC:nO lt fc nm R) {f fN fM fO fR:FuncId} (hN:aK kd5 fN 53 (nD tS tE) []) (hR2:aK kd5 fR 38 (lJ tS tE) []) (hO:aK kd5 fO 58 (mM tS tF fR) []) (hM:aK kd5 fM 220 (nE tS tE tF fO fM) [])
  (hF:aK kd5 f 63 (oB tS tF fN fM) []) (hne:fR≠288) (hne2:fO≠288) (hne3:fM≠288) (hne4:fN≠288) (rows:List (List D)) (hR:∀x∈rows,R x) (hr:∀x∈rows,x.length=k) (len:Nat) (hlen:rows.length=len) (hbig:len<1000000000) :
  dT f [.one (.own 0 ver len),.one (.d (.int .i64 len)),.one (.fn fc [.ptr 1 0])] k ver nm rows fun rs=>Srd lt kyD rs∧Fil kyD rs rows:=by
 unfold dT;refine aS aR hF (by simp) ?_;have ins:∀(rs:List (List D)),Fil kyD rs rows→∀a n:Nat,a+n≤len→dT fN [.one (.own 0 ver len),.one (.d (.int .i64 a)),.one (.d (.int .i64 (a+n:Nat))),.one (.fn fc [.ptr 1 0])] k ver nm rs
   fun rs'=>∃Z,Srd lt kyD Z∧Z.length=n∧rs'=rs.take a++(Z++rs.drop (a+n))∧Fil kyD rs' rows:=by
  intro rs hp a n ha;have hl:rs.length=len:=by rw[hp.len,hlen]
  have e:=zI0 rs a n;have l1:(rs.take a).length=a:=by rw[kg2];omega
  have l2:((rs.drop a).take n).length=n:=by rw[kg2,kl6];omega
  have hi:=j52 (ver:=ver) hlt H hC hN (rs.take a) ((rs.drop a).take n) (rs.drop (a+n)) (fun x hx=>hR x (hp.mem (by rw[e];exact hx))) (fun x hx=>hr x (hp.mem (by rw[e];exact hx))) a (a+n) len l1.symm (by omega) (by rw[←e];exact hl) hbig;rw[←e]at hi;unfold dT at hi ⊢;refine hi.mono ?_;rintro r h' ⟨e1,rs',⟨Z,h1,h2,h3⟩,e3⟩;refine⟨e1,rs',⟨Z,h1,by rw[h2.len,l2],h3,?_⟩,e3⟩;rw[h3];refine Fil.trans ?_ hp;conv=>rhs;rw[e]
  exact kb6.app (h2.app kb6)
 have sym:∀(rs:List (List D)),Fil kyD rs rows→∀a n q:Nat,1≤n→1≤q→a+n+q≤len→Srd lt kyD ((rs.drop a).take n)→Srd lt kyD ((rs.drop (a+n)).take q)→
   dT fM [.one (.own 0 ver len),.one (.d (.int .i64 a)),.one (.d (.int .i64 (a+n:Nat))),.one (.d (.int .i64 (a+n+q:Nat))),.one (.fn fc [.ptr 1 0])] k ver nm rs
   fun rs'=>∃Z,Srd lt kyD Z∧Z.length=n+q∧rs'=rs.take a++(Z++rs.drop (a+n+q))∧Fil kyD rs' rows:=by
  intro rs hp a n q hn hq ha s1 s2;have hl:rs.length=len:=by rw[hp.len,hlen]
  have e0:=zI0 rs a n;have e1:rs.drop (a+n)=(rs.drop (a+n)).take q++rs.drop (a+n+q):=by rw[←kx4 (i:=q),ki5]
  have e:rs=rs.take a++((rs.drop a).take n++((rs.drop (a+n)).take q++rs.drop (a+n+q))):=by rw[←e1];exact e0
  have l1:(rs.take a).length=a:=by rw[kg2];omega
  have l2:((rs.drop a).take n).length=n:=by rw[kg2,kl6];omega
  have l3:((rs.drop (a+n)).take q).length=q:=by rw[kg2,kl6];omega
  have hi:=jb3 (ver:=ver) hlt H hC hR2 hO hM hne hne2 hne3 (n+q) (rs.take a) ((rs.drop a).take n) ((rs.drop (a+n)).take q) (rs.drop (a+n+q)) (by omega) (by omega) s1 s2 (fun x hx=>hR x (hp.mem (by rw[e];exact hx))) (fun x hx=>hr x (hp.mem (by rw[e];exact hx))) a (a+n) (a+n+q) len (by omega) l1.symm (by omega) (by omega) (by rw[←e];exact hl) hbig;rw[←e]at hi;unfold dT at hi ⊢;refine hi.mono ?_;rintro r h' ⟨g1,rs',⟨Z,hZ,h3⟩,g3⟩;refine⟨g1,rs',⟨Z,hZ.1,by rw[hZ.2.len,ke1,l2,l3],h3,?_⟩,g3⟩;rw[h3];refine Fil.trans ?_ hp;conv=>rhs;rw[e]
  have:=(kb6 (ky:=kyD) (l:=rs.take a)).app (hZ.2.app (kb6 (l:=rs.drop (a+n+q))))
  rwa [kf1]at this
 show vwp kd5 2 (oB tS tF fN fM) _ [(0,.one (.own 0 ver len)),(1,.one (.d (.int .i64 len))),(2,.one (.fn fc [.ptr 1 0]))] [.arr false k ver rows,.box [.fn nm []]];unfold oB;rw[aO];simp -implicitDefEqProofs only[oS.d,J2];refine bC (α:=Nat×List (List D)) (fun x=>[(7,.one (.d (.int .i64 x.1))),(8,.one (.d (.int .i64 (x.1+20:Nat)))),(6,.one (.d (.int .i64 20))),(0,.one (.own 0 ver len)),(1,.one (.d (.int .i64 len))),(2,.one (.fn fc [.ptr 1 0]))]) (fun x=>[.arr false k ver x.2,.box [.fn nm []]])
  (fun x=>x.1≤len∧Fil kyD x.2 rows∧∃q,x.1=q*20∧∀j,j<q→Srd lt kyD ((x.2.drop (j*20)).take 20)) (fun x=>len-x.1) (0,rows)
  (aL [0,1] rfl rfl rfl rfl) ⟨kg1 _,kb6,0,rfl,fun j hj=>absurd hj (kj6 _)⟩ ?_
 rintro⟨a,rs⟩ ⟨ha,hp,q,hq,hs⟩;simp only at ha hp hq hs;have hl:rs.length=len:=by rw[hp.len,hlen]
 rcases kf3 len (a+20)with h|h
 ·have hc:(((a+20:Nat):Int)≤(len:Int))=False:=by simp;omega
  have hi:=ins rs hp a (len-a) (by omega);rw[show a+(len-a)=len by omega]at hi;unfold dT at hi;simp -implicitDefEqProofs only[oS.d,J2,↓reduceIte,hc,hne4];refine bI [0,1] (hi) rfl rfl rfl ?_;rintro _ _ ⟨rfl,rs',⟨Z,hZ,hZl,hrs',hp'⟩,rfl⟩;refine⟨_,_,rfl,?_⟩;have hB:∀j,Srd lt kyD ((rs'.drop (j*20)).take 20):=by
   intro j;rw[kh2 (by omega),ki0]at hrs';have l1:(rs.take a).length=a:=by rw[kg2];omega
   rcases ks5 j q with g|g|g
   ·have:j*20+20≤a:=by omega
    rw[hrs',vN (by omega)];have e:=hs j g;rw[←ki5 a rs,vN (by omega)]at e;exact e
   ·subst g;rw[hrs',←hq];have:=zh2 (P:=rs.take a) (Z:=Z) (S:=[]) (n:=20) (.inr ⟨rfl,by omega⟩);rw[ki0,l1]at this;rw[this];exact hZ
   ·rw[kh2 (by rw[hp'.len];omega)];simp only[kt9];exact zI1
  clear hrs';simp -implicitDefEqProofs only[oS.d,J6,↓reduceIte];refine bC (α:=Nat×List (List D)) (fun x=>[(6,.one (.d (.int .i64 x.1))),(0,.one (.own 0 ver len)),(1,.one (.d (.int .i64 len))),(2,.one (.fn fc [.ptr 1 0]))]) (fun x=>[.arr false k ver x.2,.box [.fn nm []]])
   (fun x=>1≤x.1∧x.1≤2*len+20∧Fil kyD x.2 rows∧∀j,Srd lt kyD ((x.2.drop (j*x.1)).take x.1)) (fun x=>len-x.1) (20,rs')
   (aL [0,1] rfl rfl rfl rfl) ⟨by show 1≤20;omega,by show 20≤2*len+20;omega,hp',hB⟩ ?_
  rintro⟨bs,ss⟩ ⟨hb1,hb2,hq2,hB2⟩;simp only at hb1 hb2 hq2 hB2;have hl2:ss.length=len:=by rw[hq2.len,hlen]
  rcases kf3 bs len with h2|h2
  ·have hc2:((bs:Int)<(len:Int))=True:=by simp;omega
   have w1:IntKind.i64.wrap (2*(bs:Int))=((2*bs:Nat):Int):=by rw[IntKind.wrap_i64];omega
   have w2:IntKind.i64.wrap ((bs:Int)*2)=((2*bs:Nat):Int):=by rw[IntKind.wrap_i64];omega
   simp -implicitDefEqProofs only[oS.d,J2,J6,↓reduceIte,reduceCtorEq,hc2,w1];refine bC (α:=Nat×List (List D)) (fun x=>[(7,.one (.d (.int .i64 x.1))),(8,.one (.d (.int .i64 (x.1+2*bs:Nat)))),(6,.one (.d (.int .i64 bs))),(0,.one (.own 0 ver len)),(1,.one (.d (.int .i64 len))),(2,.one (.fn fc [.ptr 1 0]))]) (fun x=>[.arr false k ver x.2,.box [.fn nm []]])
    (fun x=>x.1≤len∧Fil kyD x.2 rows∧∃q,x.1=q*(2*bs)∧(∀j,j<q→Srd lt kyD ((x.2.drop (j*(2*bs))).take (2*bs)))∧∀j,2*q≤j→Srd lt kyD ((x.2.drop (j*bs)).take bs)) (fun x=>len-x.1) (0,ss)
    (eT [0,1] _ (kb5 _) rfl rfl rfl ⟨⟨_,kc0 _,rfl⟩,⟨_,kc0 _,by rw[show((0,ss):Nat×List (List D)).1+2*bs=2*bs from Nat.zero_add _];rfl⟩,⟨_,kc0 _,rfl⟩,⟨_,kc0 _,rfl⟩,⟨_,kc0 _,rfl⟩,⟨_,kc0 _,rfl⟩,trivial⟩)
    ⟨kg1 _,hq2,0,by simp,fun j hj=>absurd hj (kj6 _),fun j _=>hB2 j⟩ ?_
   rintro⟨c,us⟩ ⟨hcl,hu,q,hcq,hs1,hs2⟩;simp only at hcl hu hcq hs1 hs2;clear hs hB hB2;have hlu:us.length=len:=by rw[hu.len,hlen]
   have hcb:(2*q)*bs=c:=by rw[hcq,kr5 2 q,ky3]
   have hcb2:(2*q+1)*bs=c+bs:=by rw[ks9,ky0,hcb]
   have sX:=hs2 (2*q) (kf2 _);have sY:=hs2 (2*q+1) (by omega);rw[hcb]at sX;rw[hcb2]at sY;have hjl:∀j,j<q→j*(2*bs)+2*bs≤c:=fun j hj=>by
    have:=kj2 (2*bs) (kx1 hj);rw[kr0]at this;omega
   have hjr:∀j,q<j→c+2*bs≤j*(2*bs):=fun j hj=>by
    have:=kj2 (2*bs) (kx1 hj);rw[kr0]at this;omega
   have l1:(us.take c).length=c:=by rw[kg2];omega
   have hpre:∀(T:List (List D)) j,j<q→Srd lt kyD (((us.take c++T).drop (j*(2*bs))).take (2*bs)):=fun T j hj=>by
    have g:=hjl j hj;rw[vN (by omega)];have e:=hs1 j hj;rw[←ki5 c us,vN (by omega)]at e;exact e
   have w3:=nJ (a:=c) (b:=bs) rfl (by omega);rcases kf3 len (c+2*bs)with h3|h3
   ·have hc3:(((c+2*bs:Nat):Int)≤(len:Int))=False:=by simp;omega
    rcases kf3 (c+bs) len with h4|h4
    ·have hc4:(((c+bs:Nat):Int)<(len:Int))=True:=by simp;omega
     have sY2:Srd lt kyD ((us.drop (c+bs)).take (len-(c+bs))):=by
      rw[ke0 (by simp;omega)]at sY;rw[ke0 (by simp;omega)];exact sY
     have hi:=sym us hu c bs (len-(c+bs)) hb1 (by omega) (by omega) sX sY2;rw[show c+bs+(len-(c+bs))=len by omega]at hi;unfold dT at hi;simp -implicitDefEqProofs only[oS.d,J2,↓reduceIte,reduceCtorEq,hc3,w3,hc4,hne3];refine bI [0,1] (hi) rfl rfl rfl ?_;rintro _ _ ⟨rfl,us',⟨Z,hZ,hZl,hus',hu'⟩,rfl⟩;refine⟨_,_,rfl,?_⟩;have hnew:∀j,Srd lt kyD ((us'.drop (j*(2*bs))).take (2*bs)):=by
      intro j;rcases ks5 j q with g|g|g
      ·rw[hus'];exact hpre _ j g
      ·subst g;rw[hus',←hcq,kh2 (l:=us) (by omega)];have:=zh2 (P:=us.take c) (Z:=Z) (S:=[]) (n:=2*bs) (.inr ⟨rfl,by omega⟩);rw[l1]at this;rw[this];exact hZ
      ·have:=hjr j g;rw[kh2 (by rw[hu'.len];omega)];simp only[kt9];exact zI1
     clear hus' hpre;simp -implicitDefEqProofs only[oS.d,J2,J6,↓reduceIte,w2];refine⟨(2*bs,us'),⟨by show 1≤2*bs;omega,by show 2*bs≤2*len+20;omega,hu',hnew⟩,by show len-2*bs<len-bs;omega,?_⟩;exact(aL [0,1] rfl rfl rfl rfl)
    ·have hc4:(((c+bs:Nat):Int)<(len:Int))=False:=by simp;omega
     have hnew:∀j,Srd lt kyD ((us.drop (j*(2*bs))).take (2*bs)):=by
      intro j;rcases ks5 j q with g|g|g
      ·exact hs1 j g
      ·subst g;rw[←hcq,ke0 (by simp;omega)];rw[ke0 (by simp;omega)]at sX;exact sX
      ·have:=hjr j g;rw[kh2 (by omega)];simp only[kt9];exact zI1
     clear hpre;simp -implicitDefEqProofs only[oS.d,J2,↓reduceIte,hc3,w3,hc4,w2];refine⟨(2*bs,us),⟨by show 1≤2*bs;omega,by show 2*bs≤2*len+20;omega,hu,hnew⟩,by show len-2*bs<len-bs;omega,?_⟩;exact(aL [0,1] rfl rfl rfl rfl)
   ·have hc3:(((c+2*bs:Nat):Int)≤(len:Int))=True:=by simp;omega
    have hi:=sym us hu c bs bs hb1 hb1 (by omega) sX sY;rw[show c+bs+bs=c+2*bs by omega]at hi;unfold dT at hi;have w4:=nJ (a:=c+2*bs) (b:=2*bs) rfl (by omega);simp -implicitDefEqProofs only[oS.d,J2,↓reduceIte,reduceCtorEq,hc3,w3,hne3];refine bI [0,1] (hi) rfl rfl rfl ?_;rintro _ _ ⟨rfl,us',⟨Z,hZ,hZl,hus',hu'⟩,rfl⟩;refine⟨_,_,rfl,?_⟩;have hcq2:c+2*bs=(q+1)*(2*bs):=by rw[ks9,ky0,hcq]
    have n1:∀j,j<q+1→Srd lt kyD ((us'.drop (j*(2*bs))).take (2*bs)):=by
     intro j hj;rcases kf3 j q with g|g
     ·rw[hus'];exact hpre _ j g
     ·have:j=q:=by omega
      subst this;rw[hus',←hcq];have:=zh2 (P:=us.take c) (Z:=Z) (S:=us.drop (c+2*bs)) (n:=2*bs) (.inl (by omega));rw[l1]at this;rw[this];exact hZ
    have n2:∀j,2*(q+1)≤j→Srd lt kyD ((us'.drop (j*bs)).take bs):=by
     intro j hj;have hjb:c+2*bs≤j*bs:=by
      have:=kj2 bs hj;have e3:2*(q+1)*bs=c+2*bs:=by rw[hcq2,kr5 2 (q+1),ky3]
      omega
     have e:=hs2 j (by omega);have e4:=zI0 us c (2*bs);rw[hus',j53 (W:=(us.drop c).take (2*bs)) (by rw[kg2,kl6];omega) (by omega),←e4];exact e
    clear hus' hpre;simp -implicitDefEqProofs only[oS.d,J2,J6,↓reduceIte,w1,w4];refine⟨(c+2*bs,us'),⟨h3,hu',q+1,hcq2,n1,n2⟩,by show len-(c+2*bs)<len-c;omega,?_⟩;exact(aL [0,1] rfl rfl rfl rfl)
  ·have hc2:((bs:Int)<(len:Int))=False:=by simp;omega
   have hfin:=hB2 0;rw[Nat.zero_mul,kj7,ke0 (by omega)]at hfin;clear hs hB hB2;simp -implicitDefEqProofs only[oS.d,J2,J6,↓reduceIte,hc2];apply aI [0,1];rfl;rfl;exact⟨rfl,_,⟨hfin,hq2⟩,rfl⟩
 ·have hc:(((a+20:Nat):Int)≤(len:Int))=True:=by simp;omega
  have hi:=ins rs hp a 20 h;unfold dT at hi;have w1:IntKind.i64.wrap (((a+20:Nat):Int)+20)=((a+20+20:Nat):Int):=by rw[IntKind.wrap_i64];omega
  simp -implicitDefEqProofs only[oS.d,J2,↓reduceIte,reduceCtorEq,hc,hne4];refine bI [0,1] (hi) rfl rfl rfl ?_;rintro _ _ ⟨rfl,rs',⟨Z,hZ,hZl,hrs',hp'⟩,rfl⟩;refine⟨_,_,rfl,?_⟩;have hB:∀j,j<q+1→Srd lt kyD ((rs'.drop (j*20)).take 20):=by
   intro j hj;have l1:(rs.take a).length=a:=by rw[kg2];omega
   rcases kf3 j q with g|g
   ·rw[hrs',vN (by omega)];have e:=hs j g;rw[←ki5 a rs,vN (by omega)]at e;exact e
   ·have:j=q:=by omega
    subst this;rw[hrs',←hq];have:=zh2 (P:=rs.take a) (Z:=Z) (S:=rs.drop (a+20)) (n:=20) (.inl hZl);rw[l1]at this;rw[this];exact hZ
  clear hrs' hs;simp -implicitDefEqProofs only[oS.d,J2,J6,↓reduceIte,w1];refine⟨(a+20,rs'),⟨h,hp',q+1,by omega,hB⟩,by show len-(a+20)<len-a;omega,?_⟩;exact(aL [0,1] rfl rfl rfl rfl)
theorem j55 (hlt:gQ lt) (H:kX tS tE k) (hC:nO lt fc nm R) {fS f fN fM fO fR:FuncId} (hN:aK kd5 fN 53 (nD tS tE) []) (hR2:aK kd5 fR 38 (lJ tS tE) []) (hO:aK kd5 fO 58 (mM tS tF fR) []) (hM:aK kd5 fM 220 (nE tS tE tF fO fM) [])
  (hT:aK kd5 f 63 (oB tS tF fN fM) []) (hF:aK kd5 fS 9 (pF tS tF f) []) (hne:fR≠288) (hne2:fO≠288) (hne3:fM≠288) (hne4:fN≠288) (hne5:f≠288) (rows:List (List D)) (hR:∀x∈rows,R x) (hr:∀x∈rows,x.length=k) (hbig:rows.length<1000000000) :
  dT fS [.one (.own 0 ver rows.length),.one (.fn fc [.ptr 1 0])] k ver nm rows fun rs=>Srd lt kyD rs∧Fil kyD rs rows:=by
 have hs:=j54 (ver:=ver) hlt H hC hN hR2 hO hM hT hne hne2 hne3 hne4 rows hR hr rows.length rfl hbig;obtain⟨b1,z1,b2,z2,hS,hb2,hz2,hk0⟩:=H.S;unfold dT at hs ⊢;refine aS aR hF (by simp) ?_;generalize hlen:rows.length=len at *;show vwp kd5 2 (pF tS tF f) _ [(0,.one (.own 0 ver len)),(1,.one (.fn fc [.ptr 1 0]))] [.arr false k ver rows,.box [.fn nm []]];unfold pF;rw[aO];simp -implicitDefEqProofs only[oS.d,J2,↓reduceIte,kG hS,hne5];refine bI [0,1] (hs) rfl rfl rfl ?_;rintro _ _ ⟨rfl,rs',hp',rfl⟩;refine⟨_,_,rfl,?_⟩;simp -implicitDefEqProofs only[oS.d,J6,↓reduceIte];apply aI [0,1];rfl;rfl;exact⟨rfl,_,hp',rfl⟩
end
theorem jb4 {m:Nat→Option Nat}:∀x:List D,kg3 m (x.map .d)=some (x.map .d)
 |[]=>rfl
 |d::r=>by simp only[ke5,kg3,aJ,jb4 r]
theorem j56 {f:FuncId} {x:List D} {h:aB} {K:Kn (V×aB)} {y:List D} (H:VC kd5 f [.agg (x.map .d)] [] fun r h'=>r = .agg (y.map .d)∧h'=[])
  (hk:K.run (.agg (y.map .d),h)):@jN kd5 f [.agg (x.map .d)] h K:=by
 refine bI [] H rfl ?_ rfl ?_
 ·simp[cL,bM,zB0]
 rintro _ _ ⟨rfl,rfl⟩;refine⟨.agg (y.map .d),h,?_,hk⟩;unfold lE;split
 ·rfl
 ·simp[fY,jb4,iU,dK,lD,zB1,eC,eS]
theorem jb5 (s:ByteArray):VC kd5 240 [.one (.d (.str s))] [] fun r h'=>r = .one (.d (.bool false))∧h'=[]:=by
 refine aS aR jI0 (by simp) ?_;show vwp kd5 0 zy7 _ [(0,.one (.d (.str s)))] [];conv in zy7=>cbv
 rw[aO];simp -implicitDefEqProofs only[oS.d,J2];apply aI [];rfl;rfl;exact⟨rfl,rfl⟩
theorem j57 (s t:ByteArray):VC kd5 186 [.one (.d (.str s)),.one (.d (.str t))] [] fun r h'=>r = .one (.d (.int .i64 (bZ s.data.toList t.data.toList)))∧h'=[]:=by
 have n1:=jb5 s;have n2:=jb5 t;have e1:=jT7 s t;have e2:=jT8 s t;refine aS aR jE9 (by simp) ?_;show vwp kd5 0 zv5 _ [(0,.one (.d (.str s))),(1,.one (.d (.str t)))] [];conv in zv5=>cbv
 rw[aO];simp -implicitDefEqProofs only[oS.d,J2];refine aQ [] n1 rfl rfl rfl rfl ?_;simp -implicitDefEqProofs only[oS.d,J2];refine aQ [] n2 rfl rfl rfl rfl ?_;rcases zD8 s.data.toList t.data.toList with h|h|h
 ·have a1:ltN s t=true:=by unfold ltN;rw[h];rfl
  rw[a1]at e1;rw[h];simp -implicitDefEqProofs only[oS.d,J2,reduceCtorEq,e1];apply aI [];rfl;rfl;exact⟨rfl,rfl⟩
 ·have a1:ltN s t=false:=by unfold ltN;rw[h];rfl
  have a2:ltN t s=false:=by unfold ltN;rw[yG s.data.toList,h];rfl
  rw[a1]at e1;rw[e1,a2,kt8]at e2;simp only[Bool.not_false]at e2;rw[h];simp -implicitDefEqProofs only[oS.d,J2,e1,e2];apply aI [];rfl;rfl;exact⟨rfl,rfl⟩
 ·have a1:ltN s t=false:=by unfold ltN;rw[h];rfl
  have a2:ltN t s=true:=by unfold ltN;rw[yG s.data.toList,h];rfl
  rw[a1]at e1;rw[e1,a2,kt8]at e2;simp only[Bool.not_true]at e2;rw[h];simp -implicitDefEqProofs only[oS.d,J2,reduceCtorEq,e1,e2];apply aI [];rfl;rfl;exact⟨rfl,rfl⟩
theorem zH (s t:ByteArray):VC kd5 129 [.one (.d (.str s)),.one (.d (.str t))] [] fun r h'=>r = .one (.d (.int .i64 (bZ s.data.toList t.data.toList)))∧h'=[]:=by
 have n1:=j57 s t;generalize bZ s.data.toList t.data.toList=c at *;refine aS aR jC6 (by simp) ?_;show vwp kd5 0 zt2 _ [(0,.one (.d (.str s))),(1,.one (.d (.str t)))] [];conv in zt2=>cbv
 rw[aO];simp -implicitDefEqProofs only[oS.d,J2];refine aQ [] n1 rfl rfl rfl rfl ?_;simp -implicitDefEqProofs only[oS.d,J2];apply aI [];rfl;rfl;exact⟨rfl,rfl⟩
theorem zI {α:Type} {k:Nat} (enc:α→List D) (nf:α→ByteArray) (g:α→α) (hk:∀a,(enc a).length=k) (hnf:∀a,kyD (enc a)=nf a) {tS tE tF tN:TypeId} {fc nm:FuncId} (H:kX tS tE k) (hC:nO ltN fc nm fun x=>∃a,x=enc a) {fS fT fN fM fO fR fC fd:FuncId} (hN:aK kd5 fN 53 (nD tS tE) []) (hR2:aK kd5 fR 38 (lJ tS tE) []) (hO:aK kd5 fO 58 (mM tS tF fR) []) (hM:aK kd5 fM 220 (nE tS tE tF fO fM) [])
  (hT:aK kd5 fT 63 (oB tS tF fN fM) []) (hS2:aK kd5 fS 9 (pF tS tF fT) []) (hCl:aK kd5 fC 8 (pG tS) [.tmp 2]) (hF:aK kd5 fd 30 (qN tS tE tF tN fC fc fS) [.tmp 6]) (bN:bty kd5 tN=none)
  (hne:fR≠288) (hne2:fO≠288) (hne3:fM≠288) (hne4:fN≠288) (hne5:fT≠288) (hne6:fS≠288) (hne7:fC≠288) {fm:FuncId} (l:List α)
  (hm:∀a∈l,VC kd5 fm [.agg ((enc a).map .d)] [] fun r h'=>r = .agg ((enc (g a)).map .d)∧h'=[]) (hbig:l.length<1000000000) :
  VC kd5 fd [.one (.d (.sl (l.map enc))),.one (.fn nm []),.one (.fn fm [])] [] fun r h'=>r = .one (.d (.sl ((bL ltN nf (l.map g)).map enc)))∧h'=[]:=by
 obtain⟨b1,z1,b2,z2,hS,hb2,hz2,hk0⟩:=H.S;obtain⟨b3,z3,fs3,hE⟩:=H.E;have hall:lC k (l.map enc)=true:=by simp[lC,hk]
 have hc0:=zZ5 H hCl (l.map enc) hall (by rw[ke9];exact hbig);refine aS aR hF (by simp) ?_;show vwp kd5 0 (qN tS tE tF tN fC fc fS) _ [(0,.one (.d (.sl (l.map enc)))),(1,.one (.fn nm [])),(2,.one (.fn fm []))] [];unfold qN;rw[aO];have srt:∀(ver:Nat) (l1:List α),l1.length<1000000000→dT fS [.one (.own 0 ver l1.length),.one (.fn fc [.ptr 1 0])] k ver nm (l1.map enc) fun rs=>rs=(bL ltN nf l1).map enc:=by
  intro ver l1 hb1;have:=j55 (ver:=ver) (R:=fun x=>∃a,x=enc a) zD9 H hC hN hR2 hO hM hT hS2 hne hne2 hne3 hne4 hne5 (l1.map enc) (fun x hx=>by obtain⟨a,_,rfl⟩:=kn1.1 hx;exact⟨a,rfl⟩) (fun x hx=>by obtain⟨a,_,rfl⟩:=kn1.1 hx;exact hk a) (by rw[ke9];exact hb1);rw[ke9]at this;unfold dT at this ⊢;refine this.mono ?_;rintro r h' ⟨e1,rs,⟨e2,e3⟩,e4⟩;refine⟨e1,rs,?_,e4⟩;rw[jT6 zD9 e2 e3,jT9];simp only[hnf]
 simp -implicitDefEqProofs only[oS.d,J2,↓reduceIte,bN,hne7];refine bI [] hc0 rfl rfl rfl ?_;rintro _ _ (⟨he,rfl,rfl⟩|⟨rfl,rfl⟩)
 ·have hl0:l=[]:=by simpa using he
  subst hl0;refine⟨_,_,rfl,?_⟩;simp -implicitDefEqProofs only[oS.d,J2,↓reduceIte,kG hS];refine bC (α:=Unit) (fun _=>[(13,.one (.d (.int .i64 0))),(12,.one (.d (.int .i64 0))),(7,.one (.own 1 0 0)),(4,.one (.ptr 0 0))]) (fun _=>[.box [.fn nm []],.arr false k 0 []])
   (fun _=>True) (fun _=>0) ()
   (gE [(7,k)] [] [0,1] rfl rfl rfl rfl rfl rfl) trivial ?_
  intro _ _;have hs:=srt 0 [] (by simp);unfold dT at hs;simp only[ke8,kg0]at hs;have h00:((0:Int)<0)=False:=by simp
  simp -implicitDefEqProofs only[oS.d,J2,↓reduceIte,h00,hne6];refine bI [1,0] (hs) rfl rfl rfl ?_;rintro _ _ ⟨rfl,rs',rfl,rfl⟩;refine⟨_,_,rfl,?_⟩;simp -implicitDefEqProofs only[oS.d,J2,J6,↓reduceIte];apply aI [];rfl;rfl;exact⟨rfl,rfl⟩
 ·refine⟨_,_,rfl,?_⟩;simp -implicitDefEqProofs only[oS.d,J2,J8,↓reduceIte,kG hS,ke9];refine bC (α:=Nat×List α) (fun x=>[(13,.one (.d (.int .i64 x.1))),(12,.one (.d (.int .i64 l.length))),(7,.one (.own 1 1 l.length)),(2,.one (.fn fm [])),(4,.one (.ptr 0 0))]) (fun x=>[.box [.fn nm []],.arr false k 1 (x.2.map enc)])
   (fun x=>x.1≤l.length∧x.2=(l.take x.1).map g++l.drop x.1) (fun x=>l.length-x.1) (0,l)
   (aL [0,1] rfl rfl rfl rfl) ⟨kg1 _,rfl⟩ ?_
  rintro⟨i,l1⟩ ⟨hi,hl1⟩;simp only at hi hl1;have hll:l1.length=l.length:=by rw[hl1];simp;omega
  rcases kf3 i l.length with h|h
  ·have hc:((i:Int)<(l.length:Int))=True:=by simp;omega
   have w1:=bJ (a:=i) rfl (by omega);obtain⟨a,ha0⟩:=bA (l:=l) (i:=i) h;have e5:l1=(l.take i).map g++a::l.drop (i+1):=by rw[hl1,vL ha0]
   have ha:l1[i]?=some a:=by
    rw[e5,List.getElem?_append_right (by simp;omega)];simp[kq3 hi]
   have hnew:l1.set i (g a)=(l.take (i+1)).map g++l.drop (i+1):=by
    rw[e5,vM ha0,List.map_append,List.set_append_right _ _ (by simp;omega)];simp[kq3 hi]
   clear e5 hl1;have hx:(l1.map enc)[i]?=some (enc a):=by rw[List.getElem?_map,ha];rfl
   have hxk:=hk a;have l2:(i:Int)<(l.length:Int):=by omega
   have hyk:=hk (g a);simp -implicitDefEqProofs only[oS.d,J1,J2,↓reduceIte,reduceCtorEq,gO hS rfl,cZ hE,hc,hx,hxk,kd8,kd9,ke9,iS hxk];refine j56 (hm a (List.mem_of_getElem? ha0)) ?_;simp -implicitDefEqProofs only[oS.d,J2,↓reduceIte,gO hS rfl,eJ hE,l2,hx,hxk,hyk,kd8,kd9,ke9,vI,vJ,pS hxk,w1];refine⟨(i+1,l1.set i (g a)),⟨by show i+1≤l.length;omega,hnew⟩,by show l.length-(i+1)<l.length-i;omega,?_⟩;simp only[List.map_set];exact(aL [0,1] rfl rfl rfl rfl)
  ·have hc:((i:Int)<(l.length:Int))=False:=by simp;omega
   have hl2:l1=l.map g:=by rw[hl1,ke0 h,kh2 h,ki0]
   have hs:=srt 1 l1 (by omega);unfold dT at hs;rw[hll]at hs;simp -implicitDefEqProofs only[oS.d,J2,↓reduceIte,hc,hne6];refine bI [1,0] (hs) rfl rfl rfl ?_;rintro _ _ ⟨rfl,rs',rfl,rfl⟩;refine⟨_,_,rfl,?_⟩;simp -implicitDefEqProofs only[oS.d,J2,J6,↓reduceIte];apply aI [];rfl;rfl;refine⟨?_,rfl⟩;rw[hl2,ke0];rw[ke9,(zD4 zD9 (ky:=nf) (l.map g)).2.len,ke9];exact kf2 _
def Srt (s:Stx):Prop:=VC kd5 29 [stW s] [] fun r h'=>r=stW (bQ ltN s)∧h'=[]
theorem j58:kX 59 133 5:=⟨⟨_,_,_,_,sF,by decide,rfl,by decide⟩,⟨_,_,_,sL⟩⟩
theorem j59 (a:Tym):(aD a).length=5:=by
 obtain⟨xn,⟨xk,xi,xl⟩,xc⟩:=a;rfl
theorem jb6 (a:Tym):VC kd5 84 [.agg ((aD a).map .d)] [] fun r h'=>r = .one (.d (.str (kyD (aD a))))∧h'=[]:=by
 obtain⟨xn,⟨xk,xi,xl⟩,xc⟩:=a;simp only[aD,aG,kg6,kh0,ke5,ke8];refine aS aR jA5 (by simp) ?_;show vwp kd5 0 zr1 _ [(0,.agg [.d (.str xn),.d (.int .i64 xk),.d (.int .i64 xi),.d (.sl (kf0 xl)),.d (.sl (xc.map bD))])] [];conv in zr1=>cbv
 rw[aO];simp -implicitDefEqProofs only[oS.d,J1,J2,J5,J6,↓reduceIte,reduceCtorEq];apply aI [];rfl;rfl;exact⟨rfl,rfl⟩
theorem j60:nO ltN 128 84 fun x=>∃a,x=aD a:=by
 rintro _ _ ⟨a,rfl⟩ ⟨b,rfl⟩;have na:=jb6 a;have nb:=jb6 b;generalize hka:kyD (aD a)=ka at *;generalize hkb:kyD (aD b)=kb at *;have nc:=zH ka kb;have hlt:ltN ka kb=true↔bZ ka.data.toList kb.data.toList<0:=by unfold ltN;exact decide_eq_true_iff
 generalize bZ ka.data.toList kb.data.toList=c at *;clear hka hkb;obtain⟨xn,⟨xk,xi,xl⟩,xc⟩:=a;obtain⟨yn,⟨yk,yi,yl⟩,yc⟩:=b;simp only[aD,aG,kg6,kh0,ke5,ke8]at na nb ⊢;refine aS aR jC5 (by simp) ?_;show vwp kd5 1 zt1 _ [(0,.agg [.d (.str xn),.d (.int .i64 xk),.d (.int .i64 xi),.d (.sl (kf0 xl)),.d (.sl (xc.map bD))]),(1,.agg [.d (.str yn),.d (.int .i64 yk),.d (.int .i64 yi),.d (.sl (kf0 yl)),.d (.sl (yc.map bD))]),(2,.one (.ptr 0 0))] [.box [.fn 84 []]];conv in zt1=>cbv
 rw[aO];simp -implicitDefEqProofs only[oS.d,J1,J2,J6,↓reduceIte];refine aQ [] na rfl rfl rfl rfl ?_;simp -implicitDefEqProofs only[oS.d,J1,J2,J6,↓reduceIte];refine aQ [] nb rfl rfl rfl rfl ?_;simp -implicitDefEqProofs only[oS.d,J2];refine aQ [] nc rfl rfl rfl rfl ?_;simp -implicitDefEqProofs only[oS.d,J2];apply aI [0];rfl;rfl;exact⟨⟨_,rfl,hlt.symm⟩,rfl⟩
theorem j61 (a:Tym):VC kd5 85 [.agg ((aD a).map .d)] [] fun r h'=>r = .agg ((aD a).map .d)∧h'=[]:=by
 obtain⟨xn,⟨xk,xi,xl⟩,xc⟩:=a;simp only[aD,aG,kg6,kh0,ke5,ke8];refine aS aR jA6 (by simp) ?_;show vwp kd5 0 zr2 _ [(0,.agg [.d (.str xn),.d (.int .i64 xk),.d (.int .i64 xi),.d (.sl (kf0 xl)),.d (.sl (xc.map bD))])] [];conv in zr2=>cbv
 rw[aO];simp -implicitDefEqProofs only[oS.d,J1,J2,J6,↓reduceIte];apply aI []
 ·simp only[cX,eH,kk6,cond_true,cond_false,sL,cI,kf9,kf5,mkV,kj7,kf6,kg0,kg8,kf2,if_true,ki2,kj3];rfl
 ·first|rfl|(simp[fin,bK,bB,bR,bM,dG,bO,idx,cM,aJ,cL,bH,kg3];first|exact⟨rfl,rfl⟩|exact⟨rfl,rfl,rfl⟩)
 exact⟨rfl,rfl⟩
theorem j62:kX 60 126 5:=⟨⟨_,_,_,_,sG,by decide,rfl,by decide⟩,⟨_,_,_,sK⟩⟩
theorem j63 (a:Vam):(aE a).length=5:=by
 obtain⟨xn,xg,⟨xk,xi,xl⟩⟩:=a;rfl
theorem jb7 (a:Vam):VC kd5 87 [.agg ((aE a).map .d)] [] fun r h'=>r = .one (.d (.str (kyD (aE a))))∧h'=[]:=by
 obtain⟨xn,xg,⟨xk,xi,xl⟩⟩:=a;simp only[aE,gP,aG,ke5,ke8];refine aS aR jA7 (by simp) ?_;show vwp kd5 0 zr3 _ [(0,.agg [.d (.str xn),.d (.int .i64 xg),.d (.int .i64 xk),.d (.int .i64 xi),.d (.sl (kf0 xl))])] [];conv in zr3=>cbv
 rw[aO];simp -implicitDefEqProofs only[oS.d,J1,J2,J5,J6,↓reduceIte,reduceCtorEq];apply aI [];rfl;rfl;exact⟨rfl,rfl⟩
theorem j64:nO ltN 132 87 fun x=>∃a,x=aE a:=by
 rintro _ _ ⟨a,rfl⟩ ⟨b,rfl⟩;have na:=jb7 a;have nb:=jb7 b;generalize hka:kyD (aE a)=ka at *;generalize hkb:kyD (aE b)=kb at *;have nc:=zH ka kb;have hlt:ltN ka kb=true↔bZ ka.data.toList kb.data.toList<0:=by unfold ltN;exact decide_eq_true_iff
 generalize bZ ka.data.toList kb.data.toList=c at *;clear hka hkb;obtain⟨xn,xg,⟨xk,xi,xl⟩⟩:=a;obtain⟨yn,yg,⟨yk,yi,yl⟩⟩:=b;simp only[aE,gP,aG,ke5,ke8]at na nb ⊢;refine aS aR jC7 (by simp) ?_;show vwp kd5 1 zt3 _ [(0,.agg [.d (.str xn),.d (.int .i64 xg),.d (.int .i64 xk),.d (.int .i64 xi),.d (.sl (kf0 xl))]),(1,.agg [.d (.str yn),.d (.int .i64 yg),.d (.int .i64 yk),.d (.int .i64 yi),.d (.sl (kf0 yl))]),(2,.one (.ptr 0 0))] [.box [.fn 87 []]];conv in zt3=>cbv
 rw[aO];simp -implicitDefEqProofs only[oS.d,J1,J2,J6,↓reduceIte];refine aQ [] na rfl rfl rfl rfl ?_;simp -implicitDefEqProofs only[oS.d,J1,J2,J6,↓reduceIte];refine aQ [] nb rfl rfl rfl rfl ?_;simp -implicitDefEqProofs only[oS.d,J2];refine aQ [] nc rfl rfl rfl rfl ?_;simp -implicitDefEqProofs only[oS.d,J2];apply aI [0];rfl;rfl;exact⟨⟨_,rfl,hlt.symm⟩,rfl⟩
theorem j65 (a:Vam):VC kd5 88 [.agg ((aE a).map .d)] [] fun r h'=>r = .agg ((aE a).map .d)∧h'=[]:=by
 obtain⟨xn,xg,⟨xk,xi,xl⟩⟩:=a;simp only[aE,gP,aG,ke5,ke8];refine aS aR jA8 (by simp) ?_;show vwp kd5 0 zr4 _ [(0,.agg [.d (.str xn),.d (.int .i64 xg),.d (.int .i64 xk),.d (.int .i64 xi),.d (.sl (kf0 xl))])] [];conv in zr4=>cbv
 rw[aO];simp -implicitDefEqProofs only[oS.d,J1,J2,J6,↓reduceIte];apply aI []
 ·simp only[cX,eH,kk6,cond_true,cond_false,sK,cI,kf9,kf5,mkV,kj7,kf6,kg0,kg8,kf2,if_true,ki2,kj3];rfl
 ·first|rfl|(simp[fin,bK,bB,bR,bM,dG,bO,idx,cM,aJ,cL,bH,kg3];first|exact⟨rfl,rfl⟩|exact⟨rfl,rfl,rfl⟩)
 exact⟨rfl,rfl⟩
theorem j66:kX 61 140 6:=⟨⟨_,_,_,_,oA,by decide,rfl,by decide⟩,⟨_,_,_,mK⟩⟩
theorem j67 (a:ByteArray×Stx):(bX a).length=6:=by
 obtain⟨xn,⟨xa1,xa2,xa3,xa4,xa5⟩⟩:=a;rfl
theorem jb8 (a:ByteArray×Stx):VC kd5 90 [.agg ((bX a).map .d)] [] fun r h'=>r = .one (.d (.str (kyD (bX a))))∧h'=[]:=by
 obtain⟨xn,⟨xa1,xa2,xa3,xa4,xa5⟩⟩:=a;simp only[bX,aA,ke5,ke8];refine aS aR jA9 (by simp) ?_;show vwp kd5 0 zr5 _ [(0,.agg [.d (.str xn),.d (.sl (xa1.map aD)),.d (.sl (xa2.map aE)),.d (.sl (ke3 xa3)),.d (.sl (ke2 xa4)),.d (.sl (ke4 xa5))])] [];conv in zr5=>cbv
 rw[aO];simp -implicitDefEqProofs only[oS.d,J1,J2,J5,J6,↓reduceIte,reduceCtorEq];apply aI [];rfl;rfl;exact⟨rfl,rfl⟩
theorem j68:nO ltN 135 90 fun x=>∃a,x=bX a:=by
 rintro _ _ ⟨a,rfl⟩ ⟨b,rfl⟩;have na:=jb8 a;have nb:=jb8 b;generalize hka:kyD (bX a)=ka at *;generalize hkb:kyD (bX b)=kb at *;have nc:=zH ka kb;have hlt:ltN ka kb=true↔bZ ka.data.toList kb.data.toList<0:=by unfold ltN;exact decide_eq_true_iff
 generalize bZ ka.data.toList kb.data.toList=c at *;clear hka hkb;obtain⟨xn,⟨xa1,xa2,xa3,xa4,xa5⟩⟩:=a;obtain⟨yn,⟨ya1,ya2,ya3,ya4,ya5⟩⟩:=b;simp only[bX,aA,ke5,ke8]at na nb ⊢;refine aS aR jC8 (by simp) ?_;show vwp kd5 1 zt4 _ [(0,.agg [.d (.str xn),.d (.sl (xa1.map aD)),.d (.sl (xa2.map aE)),.d (.sl (ke3 xa3)),.d (.sl (ke2 xa4)),.d (.sl (ke4 xa5))]),(1,.agg [.d (.str yn),.d (.sl (ya1.map aD)),.d (.sl (ya2.map aE)),.d (.sl (ke3 ya3)),.d (.sl (ke2 ya4)),.d (.sl (ke4 ya5))]),(2,.one (.ptr 0 0))] [.box [.fn 90 []]];conv in zt4=>cbv
 rw[aO];simp -implicitDefEqProofs only[oS.d,J1,J2,J6,↓reduceIte];refine aQ [] na rfl rfl rfl rfl ?_;simp -implicitDefEqProofs only[oS.d,J1,J2,J6,↓reduceIte];refine aQ [] nb rfl rfl rfl rfl ?_;simp -implicitDefEqProofs only[oS.d,J2];refine aQ [] nc rfl rfl rfl rfl ?_;simp -implicitDefEqProofs only[oS.d,J2];apply aI [0];rfl;rfl;exact⟨⟨_,rfl,hlt.symm⟩,rfl⟩
theorem j69:kX 62 161 13:=⟨⟨_,_,_,_,sH,by decide,rfl,by decide⟩,⟨_,_,_,sM⟩⟩
theorem j70 (a:ByteArray×FnE):(bT a).length=13:=by
 obtain⟨xn,xl,⟨xa1,xa2,xa3,xa4,xa5⟩,xm,⟨xb1,xb2,xb3,xb4,xb5⟩⟩:=a;rfl
theorem jb9 (a:ByteArray×FnE):VC kd5 93 [.agg ((bT a).map .d)] [] fun r h'=>r = .one (.d (.str (kyD (bT a))))∧h'=[]:=by
 obtain⟨xn,xl,⟨xa1,xa2,xa3,xa4,xa5⟩,xm,⟨xb1,xb2,xb3,xb4,xb5⟩⟩:=a;simp only[bT,eU,aA,kg6,kh0,ke5,ke8];refine aS aR jB1 (by simp) ?_;show vwp kd5 0 zr7 _ [(0,.agg [.d (.str xn),.d (.sl (nums xl)),.d (.sl (xa1.map aD)),.d (.sl (xa2.map aE)),.d (.sl (ke3 xa3)),.d (.sl (ke2 xa4)),.d (.sl (ke4 xa5)),.d (.sl (nums xm)),.d (.sl (xb1.map aD)),.d (.sl (xb2.map aE)),.d (.sl (ke3 xb3)),.d (.sl (ke2 xb4)),.d (.sl (ke4 xb5))])] [];conv in zr7=>cbv
 rw[aO];simp -implicitDefEqProofs only[oS.d,J1,J2,J5,J6,↓reduceIte,reduceCtorEq];apply aI [];rfl;rfl;exact⟨rfl,rfl⟩
theorem j71:nO ltN 138 93 fun x=>∃a,x=bT a:=by
 rintro _ _ ⟨a,rfl⟩ ⟨b,rfl⟩;have na:=jb9 a;have nb:=jb9 b;generalize hka:kyD (bT a)=ka at *;generalize hkb:kyD (bT b)=kb at *;have nc:=zH ka kb;have hlt:ltN ka kb=true↔bZ ka.data.toList kb.data.toList<0:=by unfold ltN;exact decide_eq_true_iff
 generalize bZ ka.data.toList kb.data.toList=c at *;clear hka hkb;obtain⟨xn,xl,⟨xa1,xa2,xa3,xa4,xa5⟩,xm,⟨xb1,xb2,xb3,xb4,xb5⟩⟩:=a;obtain⟨yn,yl,⟨ya1,ya2,ya3,ya4,ya5⟩,ym,⟨yb1,yb2,yb3,yb4,yb5⟩⟩:=b;simp only[bT,eU,aA,kg6,kh0,ke5,ke8]at na nb ⊢;refine aS aR jC9 (by simp) ?_;show vwp kd5 1 zt5 _ [(0,.agg [.d (.str xn),.d (.sl (nums xl)),.d (.sl (xa1.map aD)),.d (.sl (xa2.map aE)),.d (.sl (ke3 xa3)),.d (.sl (ke2 xa4)),.d (.sl (ke4 xa5)),.d (.sl (nums xm)),.d (.sl (xb1.map aD)),.d (.sl (xb2.map aE)),.d (.sl (ke3 xb3)),.d (.sl (ke2 xb4)),.d (.sl (ke4 xb5))]),(1,.agg [.d (.str yn),.d (.sl (nums yl)),.d (.sl (ya1.map aD)),.d (.sl (ya2.map aE)),.d (.sl (ke3 ya3)),.d (.sl (ke2 ya4)),.d (.sl (ke4 ya5)),.d (.sl (nums ym)),.d (.sl (yb1.map aD)),.d (.sl (yb2.map aE)),.d (.sl (ke3 yb3)),.d (.sl (ke2 yb4)),.d (.sl (ke4 yb5))]),(2,.one (.ptr 0 0))] [.box [.fn 93 []]];conv in zt5=>cbv
 rw[aO];simp -implicitDefEqProofs only[oS.d,J1,J2,J6,↓reduceIte];refine aQ [] na rfl rfl rfl rfl ?_;simp -implicitDefEqProofs only[oS.d,J1,J2,J6,↓reduceIte];refine aQ [] nb rfl rfl rfl rfl ?_;simp -implicitDefEqProofs only[oS.d,J2];refine aQ [] nc rfl rfl rfl rfl ?_;simp -implicitDefEqProofs only[oS.d,J2];apply aI [0];rfl;rfl;exact⟨⟨_,rfl,hlt.symm⟩,rfl⟩
theorem j72:kX 63 162 7:=⟨⟨_,_,_,_,sI,by decide,rfl,by decide⟩,⟨_,_,_,sN⟩⟩
theorem j73 (a:cN):(cA a).length=7:=by
 obtain⟨xn,xl,⟨xa1,xa2,xa3,xa4,xa5⟩⟩:=a;rfl
theorem jc0 (a:cN):VC kd5 96 [.agg ((cA a).map .d)] [] fun r h'=>r = .one (.d (.str (kyD (cA a))))∧h'=[]:=by
 obtain⟨xn,xl,⟨xa1,xa2,xa3,xa4,xa5⟩⟩:=a;simp only[cA,aA,ke5,ke8];refine aS aR jB3 (by simp) ?_;show vwp kd5 0 zr9 _ [(0,.agg [.d (.str xn),.d (.sl (nums xl)),.d (.sl (xa1.map aD)),.d (.sl (xa2.map aE)),.d (.sl (ke3 xa3)),.d (.sl (ke2 xa4)),.d (.sl (ke4 xa5))])] [];conv in zr9=>cbv
 rw[aO];simp -implicitDefEqProofs only[oS.d,J1,J2,J5,J6,↓reduceIte,reduceCtorEq];apply aI [];rfl;rfl;exact⟨rfl,rfl⟩
theorem j74:nO ltN 141 96 fun x=>∃a,x=cA a:=by
 rintro _ _ ⟨a,rfl⟩ ⟨b,rfl⟩;have na:=jc0 a;have nb:=jc0 b;generalize hka:kyD (cA a)=ka at *;generalize hkb:kyD (cA b)=kb at *;have nc:=zH ka kb;have hlt:ltN ka kb=true↔bZ ka.data.toList kb.data.toList<0:=by unfold ltN;exact decide_eq_true_iff
 generalize bZ ka.data.toList kb.data.toList=c at *;clear hka hkb;obtain⟨xn,xl,⟨xa1,xa2,xa3,xa4,xa5⟩⟩:=a;obtain⟨yn,yl,⟨ya1,ya2,ya3,ya4,ya5⟩⟩:=b;simp only[cA,aA,ke5,ke8]at na nb ⊢;refine aS aR jD0 (by simp) ?_;show vwp kd5 1 zt6 _ [(0,.agg [.d (.str xn),.d (.sl (nums xl)),.d (.sl (xa1.map aD)),.d (.sl (xa2.map aE)),.d (.sl (ke3 xa3)),.d (.sl (ke2 xa4)),.d (.sl (ke4 xa5))]),(1,.agg [.d (.str yn),.d (.sl (nums yl)),.d (.sl (ya1.map aD)),.d (.sl (ya2.map aE)),.d (.sl (ke3 ya3)),.d (.sl (ke2 ya4)),.d (.sl (ke4 ya5))]),(2,.one (.ptr 0 0))] [.box [.fn 96 []]];conv in zt6=>cbv
 rw[aO];simp -implicitDefEqProofs only[oS.d,J1,J2,J6,↓reduceIte];refine aQ [] na rfl rfl rfl rfl ?_;simp -implicitDefEqProofs only[oS.d,J1,J2,J6,↓reduceIte];refine aQ [] nb rfl rfl rfl rfl ?_;simp -implicitDefEqProofs only[oS.d,J2];refine aQ [] nc rfl rfl rfl rfl ?_;simp -implicitDefEqProofs only[oS.d,J2];apply aI [0];rfl;rfl;exact⟨⟨_,rfl,hlt.symm⟩,rfl⟩
theorem j75 (a:ByteArray×Stx) (H:Srt a.2):VC kd5 91 [.agg ((bX a).map .d)] [] fun r h'=>r = .agg ((bX (a.1,bQ ltN a.2)).map .d)∧h'=[]:=by
 obtain⟨xn,⟨xa1,xa2,xa3,xa4,xa5⟩⟩:=a;unfold Srt at H;simp only at H ⊢;generalize bQ ltN (.mk xa1 xa2 xa3 xa4 xa5)=Z at *;obtain⟨a,b,c,d,e⟩:=Z;simp only[bX,aA,stW,ke5,ke8]at H ⊢;refine aS aR jB0 (by simp) ?_;show vwp kd5 0 zr6 _ [(0,.agg [.d (.str xn),.d (.sl (xa1.map aD)),.d (.sl (xa2.map aE)),.d (.sl (ke3 xa3)),.d (.sl (ke2 xa4)),.d (.sl (ke4 xa5))])] [];conv in zr6=>cbv
 rw[aO];simp -implicitDefEqProofs only[oS.d,J1,J2,J5,J6,↓reduceIte,reduceCtorEq];refine aQ [] H rfl rfl rfl rfl ?_;simp -implicitDefEqProofs only[oS.d,J1,J2,J5,J6,↓reduceIte,reduceCtorEq];apply aI []
 ·simp only[cX,eH,kk6,cond_true,cond_false,mK,cI,kf9,kf5,mkV,kj7,kf6,kg0,kg8,kf2,if_true,ki2,kj3];rfl
 ·first|rfl|(simp[fin,bK,bB,bR,bM,dG,bO,idx,cM,aJ,cL,bH,kg3];first|exact⟨rfl,rfl⟩|exact⟨rfl,rfl,rfl⟩)
 exact⟨rfl,rfl⟩
theorem j76 (a:ByteArray×FnE) (H:Srt a.2.2.1) (H2:Srt a.2.2.2.2):VC kd5 94 [.agg ((bT a).map .d)] [] fun r h'=>r = .agg ((bT (a.1,a.2.1,bQ ltN a.2.2.1,a.2.2.2.1,bQ ltN a.2.2.2.2)).map .d)∧h'=[]:=by
 obtain⟨xn,xl,⟨xa1,xa2,xa3,xa4,xa5⟩,xm,⟨xb1,xb2,xb3,xb4,xb5⟩⟩:=a;unfold Srt at H H2;simp only at H H2 ⊢;generalize bQ ltN (.mk xa1 xa2 xa3 xa4 xa5)=Z at *;generalize bQ ltN (.mk xb1 xb2 xb3 xb4 xb5)=Z2 at *;obtain⟨a,b,c,d,e⟩:=Z;obtain⟨a2,b2,c2,d2,e2⟩:=Z2;simp only[bT,eU,aA,stW,kg6,kh0,ke5,ke8]at H H2 ⊢;refine aS aR jB2 (by simp) ?_;show vwp kd5 0 zr8 _ [(0,.agg [.d (.str xn),.d (.sl (nums xl)),.d (.sl (xa1.map aD)),.d (.sl (xa2.map aE)),.d (.sl (ke3 xa3)),.d (.sl (ke2 xa4)),.d (.sl (ke4 xa5)),.d (.sl (nums xm)),.d (.sl (xb1.map aD)),.d (.sl (xb2.map aE)),.d (.sl (ke3 xb3)),.d (.sl (ke2 xb4)),.d (.sl (ke4 xb5))])] [];conv in zr8=>cbv
 rw[aO];simp -implicitDefEqProofs only[oS.d,J1,J2,J5,J6,↓reduceIte,reduceCtorEq];refine aQ [] H rfl rfl rfl rfl ?_;simp -implicitDefEqProofs only[oS.d,J1,J2,J5,J6,↓reduceIte,reduceCtorEq];refine aQ [] H2 rfl rfl rfl rfl ?_;simp -implicitDefEqProofs only[oS.d,J1,J2,J5,J6,↓reduceIte,reduceCtorEq];apply aI []
 ·simp only[cX,eH,kk6,cond_true,cond_false,sM,cI,kf9,kf5,mkV,kj7,kf6,kg0,kg8,kf2,if_true,ki2,kj3];rfl
 ·first|rfl|(simp[fin,bK,bB,bR,bM,dG,bO,idx,cM,aJ,cL,bH,kg3];first|exact⟨rfl,rfl⟩|exact⟨rfl,rfl,rfl⟩)
 exact⟨rfl,rfl⟩
theorem j77 (a:cN) (H:Srt a.2.2):VC kd5 97 [.agg ((cA a).map .d)] [] fun r h'=>r = .agg ((cA (a.1,a.2.1,bQ ltN a.2.2)).map .d)∧h'=[]:=by
 obtain⟨xn,xl,⟨xa1,xa2,xa3,xa4,xa5⟩⟩:=a;unfold Srt at H;simp only at H ⊢;generalize bQ ltN (.mk xa1 xa2 xa3 xa4 xa5)=Z at *;obtain⟨a,b,c,d,e⟩:=Z;simp only[cA,aA,stW,ke5,ke8]at H ⊢;refine aS aR jB4 (by simp) ?_;show vwp kd5 0 zs0 _ [(0,.agg [.d (.str xn),.d (.sl (nums xl)),.d (.sl (xa1.map aD)),.d (.sl (xa2.map aE)),.d (.sl (ke3 xa3)),.d (.sl (ke2 xa4)),.d (.sl (ke4 xa5))])] [];conv in zs0=>cbv
 rw[aO];simp -implicitDefEqProofs only[oS.d,J1,J2,J5,J6,↓reduceIte,reduceCtorEq];refine aQ [] H rfl rfl rfl rfl ?_;simp -implicitDefEqProofs only[oS.d,J1,J2,J5,J6,↓reduceIte,reduceCtorEq];apply aI []
 ·simp only[cX,eH,kk6,cond_true,cond_false,sN,cI,kf9,kf5,mkV,kj7,kf6,kg0,kg8,kf2,if_true,ki2,kj3];rfl
 ·first|rfl|(simp[fin,bK,bB,bR,bM,dG,bO,idx,cM,aJ,cL,bH,kg3];first|exact⟨rfl,rfl⟩|exact⟨rfl,rfl,rfl⟩)
 exact⟨rfl,rfl⟩
theorem j78:∀s:Stx,stn s<1000000000→Srt s:=by
 intro s;induction s using Stx.ind with
 |h s1 s2 s3 s4 s5 i1 i2 i3=>
 intro hN;simp only[stn]at hN;have hl1:=dV (f:=cJ) (fun t=>by unfold cJ;omega) s1;have hl2:=dV (f:=cO) (fun t=>by unfold cO;omega) s2;have hl3:=zd0 s3;have hl4:=zd1 s4;have hl5:=zd2 s5;have c1:=zI aD (·.name) (fun a=>a) j59 (fun a=>by first|rfl|(obtain⟨xn,⟨xk,xi,xl⟩,xc⟩:=a;rfl)) j58 j60 jK0 jJ8 jJ9 jK1 jK2 jK3 jK4 jK5 jx7 (by decide) (by decide) (by decide) (by decide) (by decide) (by decide) (by decide) (fm:=85) s1 (fun a _=>j61 a) (by omega);have c2:=zI aE (·.name) (fun a=>a) j63 (fun a=>by first|rfl|(obtain⟨xn,xg,⟨xk,xi,xl⟩⟩:=a;rfl)) j62 j64 jK8 jK6 jK7 jK9 jL0 jL1 jL2 jL3 jx8 (by decide) (by decide) (by decide) (by decide) (by decide) (by decide) (by decide) (fm:=88) s2 (fun a _=>j65 a) (by omega);have c3:=zI bX (·.1) (fun a=>(a.1,bQ ltN a.2)) j67 (fun a=>by first|rfl|(obtain⟨xn,⟨xa1,xa2,xa3,xa4,xa5⟩⟩:=a;rfl)) j66 j68 jL6 jL4 jL5 jL7 jL8 jL9 jM0 jM1 jx9 (by decide) (by decide) (by decide) (by decide) (by decide) (by decide) (by decide) (fm:=91) s3 (fun a ha=>j75 a (i1 a ha (by have:=pH ha;omega))) (by omega);have c4:=zI bT (·.1) (fun a=>(a.1,a.2.1,bQ ltN a.2.2.1,a.2.2.2.1,bQ ltN a.2.2.2.2)) j70 (fun a=>by first|rfl|(obtain⟨xn,xl,⟨xa1,xa2,xa3,xa4,xa5⟩,xm,⟨xb1,xb2,xb3,xb4,xb5⟩⟩:=a;rfl)) j69 j71 jM4 jM2 jM3 jM5 jM6 jM7 jM8 jM9 jy0 (by decide) (by decide) (by decide) (by decide) (by decide) (by decide) (by decide) (fm:=94) s4 (fun a ha=>j76 a ((i2 a ha).1 (by have:=iX ha;omega)) ((i2 a ha).2 (by have:=iX ha;omega))) (by omega);have c5:=zI cA (·.1) (fun a=>(a.1,a.2.1,bQ ltN a.2.2)) j73 (fun a=>by first|rfl|(obtain⟨xn,xl,⟨xa1,xa2,xa3,xa4,xa5⟩⟩:=a;rfl)) j72 j74 jN2 jN0 jN1 jN3 jN4 jN5 jN6 jN7 jy1 (by decide) (by decide) (by decide) (by decide) (by decide) (by decide) (by decide) (fm:=97) s5 (fun a ha=>j77 a (i3 a ha (by have:=nF ha;omega))) (by omega);rw[List.map_id']at c1 c2;rw[←kI,←kI,←uS]at c3;rw[←iL,←iL,←uT]at c4;rw[←iM,←iM,←uU]at c5;unfold Srt;simp only[bQ,stW,aA,ke5,ke8];generalize bL ltN (fun x=>x.name) s1=z1 at *;generalize bL ltN (fun x=>x.name) s2=z2 at *;generalize bL ltN (fun x=>x.1) (bQ.goS ltN s3)=z3 at *;generalize bL ltN (fun x=>x.1) (bQ.goF ltN s4)=z4 at *;generalize bL ltN (fun x=>x.1) (bQ.goG ltN s5)=z5 at *;refine aS aR jz9 (by simp) ?_;show vwp kd5 0 zq5 _ [(0,.agg [.d (.sl (s1.map aD)),.d (.sl (s2.map aE)),.d (.sl (ke3 s3)),.d (.sl (ke2 s4)),.d (.sl (ke4 s5))])] [];conv in zq5=>cbv
 rw[aO];simp -implicitDefEqProofs only[oS.d,J1,J2,J5,J6,↓reduceIte,reduceCtorEq];refine aQ [] c1 rfl rfl rfl rfl ?_;simp -implicitDefEqProofs only[oS.d,J1,J2,J5,J6,↓reduceIte,reduceCtorEq];refine aQ [] c2 rfl rfl rfl rfl ?_;simp -implicitDefEqProofs only[oS.d,J1,J2,J5,J6,↓reduceIte,reduceCtorEq];refine aQ [] c3 rfl rfl rfl rfl ?_;simp -implicitDefEqProofs only[oS.d,J1,J2,J5,J6,↓reduceIte,reduceCtorEq];refine aQ [] c4 rfl rfl rfl rfl ?_;simp -implicitDefEqProofs only[oS.d,J1,J2,J5,J6,↓reduceIte,reduceCtorEq];refine aQ [] c5 rfl rfl rfl rfl ?_;simp -implicitDefEqProofs only[oS.d,J2,J5,J6,↓reduceIte];apply aI []
 ·simp only[cX,eH,kk6,cond_true,cond_false,mI,cI,kf9,kf5,mkV,kj7,kf6,kg0,kg8,kf2,if_true,ki2,kj3];rfl
 ·first|rfl|(simp[fin,bK,bB,bR,bM,dG,bO,idx,cM,aJ,cL,bH,kg3];first|exact⟨rfl,rfl⟩|exact⟨rfl,rfl,rfl⟩)
 exact⟨rfl,rfl⟩
section
variable {P:Program} {h:aB} {K:Kn (V×aB)}
theorem j79 {f:FuncId} {avs:List V} {H:aB} {Post:V→aB→Prop} (bs:List (Nat×Nat×Nat)) (e:eP h bs=some H) (hc:VC P f avs H Post) (hcl:Clo H.length H) (hv:∀v∈avs,clV H.length v)
  (hk:∀r h',Post r h'→H.length≤h'.length∧K.run (r,h')):@jN P f avs h K:=by
 obtain⟨a,b⟩:=zg4 (h:=H) hv;refine mF bs avs H (List.range H.length) e (kc4 _) (kb5 _) hc (nI _) a (zg3 hcl) fun r hs' hp=>?_;obtain⟨hl,hkr⟩:=hk r hs' hp;refine⟨r,hs',?_,hkr⟩;unfold lE;rw[b];split
 ·rename_i hx;simp only[Bool.and_eq_true,List.isEmpty_iff,List.range_eq_nil]at hx;obtain⟨⟨h0,_⟩,h1⟩:=hx;have:H=[]:=List.length_eq_zero_iff.1 h0;rw[this,h1]
 ·simp only[zG0,zF9,eC];rw[List.length_range,z81 _ _ hl]
end
theorem jc1 {x y z:aN} {fr:List Int} {nx:Int} {bd:L} {N:List Int}:st [x,y,z,.dead] (cn 2 fr nx bd [] [] N)=[x,y,.box [.d (.sl (nums fr)),.d (.int .i64 nx),bd],.dead]:=by
 simp[st,cn,Vt.idx]
theorem jc2 (q:List Int) (y:Stx) (hq:q.length<10000000) (hy:stn y<10000000):VC kd5 34 [abW q y] [] fun r h'=>r=abW (dW ltN (q,y)).1 (dW ltN (q,y)).2∧h'=[]:=by
 have c1:=j50 q y hq hy;have c2:=j78 y (by omega);have hf:=(qX (tk:=[]) (sb:=id) (q,y) hy (by simp)).2;have hfl:(cR (q,y)).length≤stn y:=hf;have hss:=zf2 ltN y;have hb:=qX (tk:=cR (q,y)) (sb:=id) (q,bQ ltN y) (by simp only;omega) (by omega);have hcs:=j40 (fr:=cR (q,y)) (by omega) (bQ ltN y) (by omega);have c3:=fun(x0 x1 x2:aN) (h0:bH (lt 4) x0=some x0) (h1:bH (lt 4) x1=some x1) (h2:bH (lt 4) x2=some x2)=>zH6 (l:=q) hcs [x0,x1,x2,.dead] 2 3 [] none [] w0
  { cl:=fB.2 ⟨h0,fB.2 ⟨h1,fB.2 ⟨h2,fB.2 ⟨rfl,iQ.2 trivial⟩⟩⟩⟩,c_:=by simp,ms_:=by simp,nd:=rfl,cm:=by simp,ha:=rfl,ac:=by simp,am:=by simp,b_:=fun _=>rfl,lA:=rfl,lN:=rfl }
  (by simp;omega) ⟨⟨fun i j k h=>by simp[w0]at h,by simp[w0]⟩,by simp[w0],Int.le_refl _⟩ hb.1
 unfold Srt at c2;unfold dW;simp only;generalize cR (q,y)=fr at c1 c3;generalize bQ ltN y=t at c2 c3;generalize bU fr id [] (q,t) w0=R at c3;obtain⟨⟨r0,⟨r1,r2,r3,r4,r5⟩⟩,w1⟩:=R;obtain⟨y1,y2,y3,y4,y5⟩:=y;obtain⟨t1,t2,t3,t4,t5⟩:=t;simp only[jc1,w0,bdL]at c3;simp only[abW,stW,aA,ke5,ke8]at c1 c2 c3 ⊢;refine aS aR jA3 (by simp) ?_;show vwp kd5 0 zq9 _ [(0,.agg [.d (.sl (nums q)),.d (.sl (y1.map aD)),.d (.sl (y2.map aE)),.d (.sl (ke3 y3)),.d (.sl (ke2 y4)),.d (.sl (ke4 y5))])] [];conv in zq9=>cbv
 rw[aO];simp -implicitDefEqProofs only[oS.d,J1,J2,J6,↓reduceIte];refine aQ [] c1 rfl rfl rfl rfl ?_;simp -implicitDefEqProofs only[oS.d,J1,J2,J5,J6,↓reduceIte,reduceCtorEq];refine aQ [] c2 rfl rfl rfl rfl ?_;simp -implicitDefEqProofs only[oS.d,J1,J2,J5,J6,↓reduceIte,reduceCtorEq];refine j79 [(3,0,0)] rfl (c3 _ _ (.box [.d (.sl (nums fr)),.d (.int .i64 0),.nils]) rfl rfl rfl) (fB.2 ⟨rfl,fB.2 ⟨rfl,fB.2 ⟨rfl,fB.2 ⟨rfl,iQ.2 trivial⟩⟩⟩⟩) (fun v hv=>by
  simp only[List.mem_cons,List.not_mem_nil,or_false]at hv;rcases hv with rfl|rfl
  ·exact eN.2 (by simp)
  ·simp[clV,clL,aJ]) ?_
 rintro _ _ ⟨rfl,b',hb',rfl⟩;refine⟨by simp[cC],?_⟩;simp only[List.set_cons_succ,List.set_cons_zero,jc1,kg6,kh0];simp -implicitDefEqProofs only[oS.d,J2,J6,↓reduceIte];apply aI []
 ·simp only[cX,eH,kk6,cond_true,cond_false,lI,cI,kf9,kf5,mkV,kj7,kf6,kg0,kg8,kf2,if_true,ki2,kj3];rfl
 ·first|rfl|(simp[fin,bK,bB,bR,bM,dG,bO,idx,cM,aJ,cL,bH,kg3];first|exact⟨rfl,rfl⟩|exact⟨rfl,rfl,rfl⟩)
 exact⟨rfl,rfl⟩
end Go.Vt.Tryz
