import Derived.Test.YtdabfkmhkoppcaaGreatDoorVtCall2
set_option linter.all false
open Array renaming getElem?_eq_some_iff→kt0
open Bool renaming and_eq_true→ks2
open List renaming getElem?_append_left→kr9,getElem?_append_right→kr5,getElem?_drop→kv4,getElem?_eq_getElem→kr1,getElem?_eq_some_iff→kp9,mem_append→kt5
open Nat renaming lt_of_lt_of_le→kD7
open Go.Vt.aG renaming renLs→ks9
namespace Go.Vt
set_option linter.unusedSectionVars false
set_option linter.unusedVariables false
variable [cJ]
variable {P:Program} {w w':World} {μ μs:Pl} {h hs hs' os:aB} {ids lent:List Nat}
def oQ (μ μs:Pl) (n:Nat) (ids:List Nat):Pl:=
 { at_:=fun id=>match idx ids id with|some k=>μs k|none=>if id<n then μ id else μs (ids.length+(id-n)),X:=μ.X }
theorem jo8 (hlt:∀(k id:Nat),ids[k]?=some id→id<h.length) {k id:Nat} (hk:dN ids h.length k=some id):(ids[k]?=some id∧id<h.length)∨(ids[k]?=none∧ids.length≤k∧id=h.length+(k-ids.length)∧idx ids id=none):=by
 unfold dN at hk;split at hk
 ·rename_i i hi;cases hk;exact .inl ⟨hi,hlt _ _ hi⟩
 ·rename_i hi;cases hk;refine .inr ⟨hi,by simpa using hi,rfl,?_⟩;cases hx:idx ids (h.length+(k-ids.length))with
  |none=>rfl
  |some q=>have:=hlt _ _ (lL hx);omega
theorem xI (hn:bO ids=true) (hlt:∀(k id:Nat),ids[k]?=some id→id<h.length) (hl:ids.length≤os.length) {k id:Nat} (hk:dN ids h.length k=some id) :
  (eV h ids (os.take ids.length)++os.drop ids.length)[id]?=os[k]?∧(oQ μ μs h.length ids) id=μs k:=by
 have hpl:=xH ids (os.take ids.length) h;rcases jo8 hlt hk with⟨h1,h2⟩|⟨h1,h2,rfl,h4⟩
 ·have hi:=zc6 hn h1;refine⟨?_,?_⟩
  ·rw[kr9 (by rw[hpl];exact h2),zc8 hn (by simp;omega) hlt,hi];simp only;rw[List.getElem?_take_of_lt (kp9.1 h1).1]
  ·show(match idx ids id with|some k=>μs k|none=>_)=_;rw[hi]
 ·refine⟨?_,?_⟩
  ·rw[kr5 (by rw[hpl];omega),hpl,kv4]
   congr 1;omega
  ·show(match idx ids _ with|some k=>μs k|none=>if _ then _ else _)=_;rw[h4];simp only;rw[if_neg (by omega)]
   congr 1;omega
theorem mF (hn:bO ids=true) (hlt:∀(k id:Nat),ids[k]?=some id→id<h.length) (hl:ids.length≤os.length) {id:Nat} (hid:id<h.length) (hi:idx ids id=none) :
  (eV h ids (os.take ids.length)++os.drop ids.length)[id]?=h[id]?∧(oQ μ μs h.length ids) id=μ id:=by
 have hpl:=xH ids (os.take ids.length) h;refine⟨?_,?_⟩
 ·rw[kr9 (by rw[hpl];exact hid),zc8 hn (by simp;omega) hlt,hi]
 ·show(match idx ids id with|some k=>μs k|none=>if _ then _ else _)=_;rw[hi];simp[hid]
theorem rA (hn:bO ids=true) (hlt:∀(k id:Nat),ids[k]?=some id→id<h.length) (hl:ids.length≤os.length) {id:Nat} {o:aI}
  (ho:(eV h ids (os.take ids.length)++os.drop ids.length)[id]?=some o):(id<h.length∧idx ids id=none∧h[id]?=some o)∨∃k,dN ids h.length k=some id∧os[k]?=some o:=by
 have hpl:=xH ids (os.take ids.length) h;rcases Nat.lt_or_ge id h.length with hid|hid
 ·cases hi:idx ids id with
  |none=>exact .inl ⟨hid,rfl,by rw[←(mF (μ:=⟨fun _=>none,fun _=>False⟩) (μs:=⟨fun _=>none,fun _=>False⟩) hn hlt hl hid hi).1];exact ho⟩
  |some k=>
   have hk:=lL hi;refine .inr ⟨k,by simp[dN,hk],?_⟩;rw[←(xI (μ:=⟨fun _=>none,fun _=>False⟩) (μs:=⟨fun _=>none,fun _=>False⟩) hn hlt hl (k:=k) (id:=id) (by simp[dN,hk])).1];exact ho
 ·rw[kr5 (by rw[hpl];exact hid),hpl,kv4]at ho;refine .inr ⟨ids.length+(id-h.length),?_,ho⟩;have:ids[ids.length+(id-h.length)]?=none:=by simp
  simp only[dN,this]
  congr 1;omega
theorem zd0 (hh:bA h (idx ids) ids=some hs) (G:Good w (gE μ h ids lent) hs w' μs hs') (hos:jN (dN ids h.length) hs'=some os):ids.length≤os.length:=by
 have:=G.len;have:=(uT hos).1;have:=(pL hh).1;omega
theorem uU (hn:bO ids=true) (hlt:∀(k id:Nat),ids[k]?=some id→id<h.length) (hh:bA h (idx ids) ids=some hs) (G:Good w (gE μ h ids lent) hs w' μs hs') (hos:jN (dN ids h.length) hs'=some os) {k id:Nat} {o:aI} (hk:dN ids h.length k=some id) (ho:hs'[k]?=some o) :
  ∃o',(eV h ids (os.take ids.length)++os.drop ids.length)[id]?=some o'∧bD (dN ids h.length) o=some o'∧(oQ μ μs h.length ids) id=μs k:=by
 obtain⟨o',h1,h2⟩:=(uT hos).2 k o ho;obtain⟨a,b⟩:=xI (μ:=μ) (μs:=μs) hn hlt (zd0 hh G hos) hk;exact⟨o',a.trans h1,h2,b⟩
theorem zo9 (hn:bO ids=true) (hlt:∀(k id:Nat),ids[k]?=some id→id<h.length) (hh:bA h (idx ids) ids=some hs) (G:Good w (gE μ h ids lent) hs w' μs hs') (hos:jN (dN ids h.length) hs'=some os) (hX:∀(id:Nat) (o:aI),h[id]?=some o→id∈lent→o.live=false) (b:Nat) (hb:Mut (oQ μ μs h.length ids) (eV h ids (os.take ids.length)++os.drop ids.length) b):Mut μs hs' b:=by
 have hl:=zd0 hh G hos;rcases hb with⟨id,o,h1,h2,h3⟩|hb
 ·rcases rA hn hlt hl h1 with⟨a1,a2,a3⟩|⟨k,a1,a2⟩
  ·rw[(mF (μ:=μ) (μs:=μs) hn hlt hl a1 a2).2]at h3;refine .inr ?_;rw[G.out];exact .inr ⟨id,o,a3,h2,h3,qZ a2,fun hi=>by rw[hX _ _ a3 hi]at h2;cases h2⟩
  ·rw[(xI (μ:=μ) (μs:=μs) hn hlt hl a1).2]at h3;obtain⟨e1,e2⟩:=uT hos;have hkl:k<hs'.length:=by have:=(kp9.1 a2).1;omega
   obtain⟨o',b1,b2⟩:=e2 k _ (kr1 hkl);rw[a2]at b1;cases b1;exact .inl ⟨k,_,kr1 hkl,by rw[←(mW b2).1];exact h2,h3⟩
 ·refine .inr ?_;rw[G.out];exact .inl hb
section
theorem zS6 (hn:bO ids=true) (hlt:∀(k id:Nat),ids[k]?=some id→id<h.length) (hh:bA h (idx ids) ids=some hs) (G:Good w (gE μ h ids lent) hs w' μs hs') (hos:jN (dN ids h.length) hs'=some os) (hX:∀(id:Nat) (o:aI),h[id]?=some o→id∈lent→o.live=false) {l l':L} {v:Value} (hl:aY w' μs hs' l v) (hr:aG (dN ids h.length) l=some l'):aY w' (oQ μ μs h.length ids) (eV h ids (os.take ids.length)++os.drop ids.length) l' v:=
 zR8 (fun _ _ hd=>hd.step (fun _ _ _=>rfl) (fun b hb=>.inl (zo9 hn hlt hh G hos hX b hb))) (zo9 hn hlt hh G hos hX) (fun _ _ _ hm ho=>uU hn hlt hh G hos hm ho) hl hr
theorem zS7 (hn:bO ids=true) (hlt:∀(k id:Nat),ids[k]?=some id→id<h.length) (hh:bA h (idx ids) ids=some hs) (G:Good w (gE μ h ids lent) hs w' μs hs') (hos:jN (dN ids h.length) hs'=some os):Good w μ h w' (oQ μ μs h.length ids) (eV h ids (os.take ids.length)++os.drop ids.length):=by
 have hl:=zd0 hh G hos;have old:∀{id:Nat} {o:aI},h[id]?=some o→idx ids id=none→(eV h ids (os.take ids.length)++os.drop ids.length)[id]?=some o∧(oQ μ μs h.length ids) id=μ id:=by
  intro id o ho hi;obtain⟨a,b⟩:=mF (μ:=μ) (μs:=μs) hn hlt hl (kp9.1 ho).1 hi;exact⟨a.trans ho,b⟩
 have hand:∀{id k:Nat} {o:aI},h[id]?=some o→idx ids id=some k→∃o1,hs[k]?=some o1∧bD (idx ids) o=some o1∧(gE μ h ids lent) k=μ id∧dN ids h.length k=some id:=by
  intro id k o ho hi;obtain⟨o1,a,b,c⟩:=zo6 (μ:=μ) (lent:=lent) hh hi ho;exact⟨o1,a,b,c,by simp[dN,lL hi]⟩
 refine⟨G.os,G.tape,G.output,G.size,rfl,?_,G.shape,?_,?_,?_,?_,?_⟩
 ·intro b hb hnl;refine G.block b hb (fun hlv=>?_);obtain⟨k,id,o,a1,a2,a3,a4⟩:=sU hh hlv;exact hnl ⟨id,o,a2,a3,a4⟩
 ·intro b hb;obtain⟨id,o,h1,h2,h3⟩:=hb;rcases rA hn hlt hl h1 with⟨a1,a2,a3⟩|⟨k,a1,a2⟩
  ·rw[(mF (μ:=μ) (μs:=μs) hn hlt hl a1 a2).2]at h3;exact .inl ⟨id,o,a3,h2,h3⟩
  ·rw[(xI (μ:=μ) (μs:=μs) hn hlt hl a1).2]at h3;obtain⟨e1,e2⟩:=uT hos;have hkl:k<hs'.length:=by have:=(kp9.1 a2).1;omega
   obtain⟨o',b1,b2⟩:=e2 k _ (kr1 hkl);rw[a2]at b1;cases b1;rcases G.fresh b ⟨k,_,kr1 hkl,by rw[←(mW b2).1];exact h2,h3⟩with hlv|hge
   ·obtain⟨k,id,o,c1,c2,c3,c4⟩:=sU hh hlv;exact .inl ⟨id,o,c2,c3,c4⟩
   ·exact .inr hge
 ·simp[xH]
 ·intro id ty cells hid;cases hi:idx ids id with
  |none=>obtain⟨a,b⟩:=old hid hi;exact .inr ⟨cells,ty,a,rfl,b⟩
  |some k=>
   obtain⟨o1,a,b,c,d⟩:=hand hid hi;simp only[bD]at b;cases hc:ks9 (idx ids) cells with
   |none=>simp[hc]at b
   |some c1=>
    simp[hc]at b;subst b;have e1:=(nV hc).1;rcases G.boxes _ _ a with hd|⟨c2,y2,x1,x2,x3⟩
    ·obtain⟨o',y1,y2,y3⟩:=uU hn hlt hh G hos d hd;cases y2;exact .inl y1
    ·obtain⟨o',y1,y2,y3⟩:=uU hn hlt hh G hos d x1;simp only[bD]at y2;cases hc2:ks9 (dN ids h.length) c2 with
     |none=>simp[hc2]at y2
     |some c3=>
      simp[hc2]at y2;subst y2;have e2:=(nV hc2).1;exact .inr ⟨c3,_,y1,by omega,y3.trans (x3.trans c)⟩
 ·intro id ty fz sz ver xs hid;cases hi:idx ids id with
  |none=>obtain⟨a,b⟩:=old hid hi;exact .inr ⟨fz,sz,ver,xs,ty,a,.inl ⟨rfl,rfl,rfl,b⟩⟩
  |some k=>
   obtain⟨o1,a,b,c,d⟩:=hand hid hi;cases b;rcases G.arrs _ _ _ _ _ a with hd|⟨f2,s2,v2,x2,y2,x1,x3⟩
   ·obtain⟨o',y1,y2,y3⟩:=uU hn hlt hh G hos d hd;cases y2;exact .inl y1
   ·obtain⟨o',y1,y2,y3⟩:=uU hn hlt hh G hos d x1;cases y2;refine .inr ⟨f2,s2,v2,x2,_,y1,?_⟩;rcases x3 with⟨p1,p2,p3,p4⟩|p
    ·exact .inl ⟨p1,p2,p3,y3.trans (p4.trans c)⟩
    ·exact .inr p
 ·intro id hid;cases hi:idx ids id with
  |none=>exact(old hid hi).1
  |some k=>
   obtain⟨o1,a,b,c,d⟩:=hand hid hi;cases b;obtain⟨o',y1,y2,y3⟩:=uU hn hlt hh G hos d (G.deads _ a);cases y2;exact y1
theorem jo9 (hn:bO ids=true) (hlt:∀(k id:Nat),ids[k]?=some id→id<h.length) (hh:bA h (idx ids) ids=some hs) (G:Good w (gE μ h ids lent) hs w' μs hs') (hos:jN (dN ids h.length) hs'=some os) (H:aR w μ h) (Hs:aR w' μs hs') (hX:∀(id:Nat) (o:aI),h[id]?=some o→id∈lent→o.live=false):aR w' (oQ μ μs h.length ids) (eV h ids (os.take ids.length)++os.drop ids.length):=by
 have hl:=zd0 hh G hos;have g:=zS7 hn hlt hh G hos;obtain⟨e1,e2⟩:=uT hos;have home:∀{k id:Nat} {o:aI},dN ids h.length k=some id→os[k]?=some o→∃o0,hs'[k]?=some o0∧bD (dN ids h.length) o0=some o∧(oQ μ μs h.length ids) id=μs k:=by
  intro k id o hk ho;have hkl:k<hs'.length:=by have:=(kp9.1 ho).1;omega
  obtain⟨o',b1,b2⟩:=e2 k _ (kr1 hkl);rw[ho]at b1;cases b1;exact⟨_,kr1 hkl,b2,(xI (μ:=μ) (μs:=μs) hn hlt hl hk).2⟩
 have ltOf:∀{id b:Nat} {o:aI},h[id]?=some o→o.there=true→μ id=some b→b<w.heap.size:=by
  intro id b o ho ht hm;cases o with
  |bx ty cells=>obtain⟨b',cs,T,a1,a2,_⟩:=H.box _ _ ho;rw[hm]at a1;cases a1;exact(kt0.1 a2).1
  |ar ty fz sz ver xs=>
   rcases H.arr _ _ _ _ _ ho with⟨hn',_⟩|⟨b',cs,T,a1,a2,_⟩
   ·rw[hm]at hn';cases hn'
   ·rw[hm]at a1;cases a1;exact(kt0.1 a2).1
  |dead=>cases ht
 have same:∀{id b:Nat} {o:aI},h[id]?=some o→o.there=true→idx ids id=none→μ id=some b→w'.heap[b]?=w.heap[b]?:=by
  intro id b o ho ht hi hm;refine G.block b (ltOf ho ht hm) (fun hlv=>?_);obtain⟨k,id2,o2,c1,c2,c3,c4⟩:=sU hh hlv;have:=H.apart _ _ _ _ _ c2 ho c3 ht c4 hm;subst this;exact qZ hi k c1
 refine⟨?_,?_,?_,?_,?_,fun id o b hid hb=>by
  rcases rA hn hlt hl hid with⟨a1,a2,a3⟩|⟨k,a1,a2⟩
  ·exact(H.ty _ _ _ a3 ((mF (μ:=μ) (μs:=μs) hn hlt hl a1 a2).2.symm.trans hb)).good g
  ·obtain⟨o0,b1,b2,b3⟩:=home a1 a2;exact zR7 b2 (Hs.ty _ _ _ b1 (b3.symm.trans hb)),H.tabs g⟩
 ·intro id ty cells hid;rcases rA hn hlt hl hid with⟨a1,a2,a3⟩|⟨k,a1,a2⟩
  ·obtain⟨b,cs,T,h1,h2,h3,h4,h5⟩:=H.box _ _ a3;exact⟨b,cs,T,(mF (μ:=μ) (μs:=μs) hn hlt hl a1 a2).2.trans h1,(same a3 rfl a2 h1).trans h2,h3,h4,fun j l v hj hv=>(h5 j l v hj hv).good g⟩
  ·obtain⟨o0,b1,b2,b3⟩:=home a1 a2;cases o0 with
   |bx ty c0=>
    simp only[bD]at b2;cases hc:ks9 (dN ids h.length) c0 with
    |none=>simp[hc]at b2
    |some c1=>
     simp[hc]at b2;obtain⟨rfl,rfl⟩:=b2;obtain⟨b,cs,T,h1,h2,h3,h4,h5⟩:=Hs.box _ _ b1;obtain⟨r1,r2⟩:=nV hc;refine⟨b,cs,T,b3.trans h1,h2,by omega,h4,fun j l v hj hv=>?_⟩;obtain⟨l0,x1,x2⟩:=r2 j l hj;exact zS6 hn hlt hh G hos hX (h5 j l0 v x1 hv) x2
   |ar=>cases b2
   |dead=>cases b2
 ·intro id ty fz sz ver xs hid;rcases rA hn hlt hl hid with⟨a1,a2,a3⟩|⟨k,a1,a2⟩
  ·rcases H.arr _ _ _ _ _ a3 with⟨hn',hx⟩|⟨b,cs,T,h1,h2,h3,h4,h5,h6⟩
   ·exact .inl ⟨(mF (μ:=μ) (μs:=μs) hn hlt hl a1 a2).2.trans hn',hx⟩
   ·exact .inr ⟨b,cs,T,(mF (μ:=μ) (μs:=μs) hn hlt hl a1 a2).2.trans h1,(same a3 rfl a2 h1).trans h2,h3,h4,h5,fun i j e x hi hj=>let ⟨v,a,d⟩:=h6 i j e x hi hj;⟨v,a,d.good g⟩⟩
  ·obtain⟨o0,b1,b2,b3⟩:=home a1 a2;cases o0 with
   |bx ty c0=>
    simp only[bD]at b2;cases hc:ks9 (dN ids h.length) c0 with
    |none=>simp[hc]at b2
    |some c1=>simp[hc]at b2
   |ar=>
    cases b2;rcases Hs.arr _ _ _ _ _ b1 with⟨hn',hx⟩|⟨b,cs,T,h1,h2,h3,h4,h5,h6⟩
    ·exact .inl ⟨b3.trans hn',hx⟩
    ·exact .inr ⟨b,cs,T,b3.trans h1,h2,h3,h4,h5,fun i j e x hi hj=>let ⟨v,a,d⟩:=h6 i j e x hi hj;⟨v,a,d.step (fun _ _ _=>rfl) (fun b hb=>.inl (zo9 hn hlt hh G hos hX b hb))⟩⟩
   |dead=>cases b2
 ·intro i j o o' b hi hj t1 t2 m1 m2;rcases rA hn hlt hl hi with⟨a1,a2,a3⟩|⟨k,a1,a2⟩<;>rcases rA hn hlt hl hj with⟨c1,c2,c3⟩|⟨q,c1,c2⟩
  ·rw[(mF (μ:=μ) (μs:=μs) hn hlt hl a1 a2).2]at m1;rw[(mF (μ:=μ) (μs:=μs) hn hlt hl c1 c2).2]at m2;exact H.apart _ _ _ _ b a3 c3 t1 t2 m1 m2
  ·rw[(mF (μ:=μ) (μs:=μs) hn hlt hl a1 a2).2]at m1;obtain⟨o0,b1,b2,b3⟩:=home c1 c2;rw[b3]at m2;exfalso;refine Hs.off _ _ _ b1 (by rw[←(mW b2).2];exact t2) m2 ?_;rw[G.out];exact .inr ⟨i,o,a3,t1,m1,qZ a2,fun hi=>by rw[hX _ _ a3 hi]at t1;cases t1⟩
  ·obtain⟨o0,b1,b2,b3⟩:=home a1 a2;rw[b3]at m1;rw[(mF (μ:=μ) (μs:=μs) hn hlt hl c1 c2).2]at m2;exfalso;have hlive:o0.live=true:=by rw[←(mW b2).1];exact t1
   rcases G.fresh b ⟨k,o0,b1,hlive,m1⟩with hlv|hge
   ·obtain⟨k2,id2,o2,x1,x2,x3,x4⟩:=sU hh hlv;have:=H.apart _ _ _ _ _ x2 c3 x3 t2 x4 m2;subst this;exact qZ c2 k2 x1
   ·have:=ltOf c3 t2 m2;omega
  ·obtain⟨o0,b1,b2,b3⟩:=home a1 a2;obtain⟨o0',b1',b2',b3'⟩:=home c1 c2;rw[b3]at m1;rw[b3']at m2;have:=Hs.apart _ _ _ _ b b1 b1' (by rw[←(mW b2).1];exact t1) (by rw[←(mW b2').2];exact t2) m1 m2;subst this;rw[a1]at c1;cases c1;rfl
 ·intro i o b hi t1 m1;rcases rA hn hlt hl hi with⟨a1,a2,a3⟩|⟨k,a1,a2⟩
  ·rw[(mF (μ:=μ) (μs:=μs) hn hlt hl a1 a2).2]at m1;exact H.off _ _ _ a3 t1 m1
  ·obtain⟨o0,b1,b2,b3⟩:=home a1 a2;rw[b3]at m1;intro hx;refine Hs.off _ _ _ b1 (by rw[←(mW b2).2];exact t1) m1 ?_;rw[G.out];exact .inl hx
 ·intro b hb;exact kD7 (H.old b hb) G.size
end
theorem zp0:∀{vs vs':List V} {ids:List Nat},cE h ids vs=some vs'→∀id∈dM ids vs,idx ids id=none∧∃ty fz sz ver xs,h[id]?=some (.ar ty fz sz ver xs)
 |[],_,_,_,id,hi=>by simp[dM]at hi
 |v::r,vs',ids,hh,id,hi=>by
  unfold cE at hh;split at hh
  ·rename_i x xs hx hxs;simp only[dM,kt5]at hi;have hl:∀l l',bT h ids l=some l'→id∈kU ids l→idx ids id=none∧∃ty fz sz ver xs,h[id]?=some (.ar ty fz sz ver xs):=by
    intro l l' hl hm;cases l with
    |own k ver len=>
     simp only[kU]at hm;cases hk:idx ids k with
     |some q=>simp[hk]at hm
     |none=>
      simp[hk]at hm;subst hm;simp only[bT,hk]at hl;split at hl
      ·rename_i fz sz ver' xs hid;exact⟨hk,_,_,_,_,_,hid⟩
      ·cases hl
    |_=>simp[kU]at hm
   rcases hi with hi|hi
   ·cases v with
    |one l=>
     simp only[bP]at hx;cases hl':bT h ids l with
     |none=>simp[hl']at hx
     |some l'=>exact hl l l' hl' hi
    |agg ls=>
     simp only[bP]at hx;cases hl':cW h ids ls with
     |none=>simp[hl']at hx
     |some ls'=>
      clear hx hxs;simp only[mD]at hi;induction ls generalizing ls' with
      |nil=>simp[lK]at hi
      |cons l r ih=>
       unfold cW at hl';split at hl'
       ·rename_i y ys hy hys;simp only[lK,kt5]at hi;rcases hi with hi|hi
        ·exact hl l y hy hi
        ·exact ih hi ys hys
       ·cases hl'
    |tup _=>simp only[bP]at hx;cases hx
   ·exact zp0 hxs id hi
  ·cases hh
theorem zS8 (ids lent:List Nat):(∀l,bT (eB h lent) ids l=bT h ids l):=by
 intro l;cases l with
 |own id ver len=>
  simp only[bT,zc9];cases idx ids id with
  |some k=>rfl
  |none=>
   simp only;by_cases hm:id∈lent
   ·rw[if_pos hm];cases h[id]? with
    |none=>rfl
    |some o=>cases o<;>rfl
   ·rw[if_neg hm]
 |_=>rfl
theorem zS9 (ids lent:List Nat):∀ls,cW (eB h lent) ids ls=cW h ids ls
 |[]=>rfl
 |l::r=>by simp only[cW,zS8,zS9 ids lent r]
theorem zT0 (ids lent:List Nat):∀vs,cE (eB h lent) ids vs=cE h ids vs
 |[]=>rfl
 |v::r=>by
  have:bP (eB h lent) ids v=bP h ids v:=by cases v<;>simp only[bP,zS8,zS9]
  simp only[cE,this,zT0 ids lent r]
theorem zT1 {lent:List Nat} (m:Nat→Option Nat):∀{l:List Nat},(∀id∈l,id∉lent)→bA (eB h lent) m l=bA h m l
 |[],_=>rfl
 |id::r,hl=>by
  have ih:bA (eB h lent) m r=bA h m r:=zT1 m (fun i hi=>hl i (List.mem_cons_of_mem _ hi));simp only[bA,zc9,if_neg (hl id (by simp)),ih]
theorem zT2 {μ':Pl} {h':aB} {w':World} {l:L} {v:Value} (hf:zc5 l=true) (hl:aY w μ h l v):aY w' μ' h' l v:=by
 cases hl with
 |d hd=>
  cases hd with
  |bool=>exact .d (.bool _)
  |int=>exact .d (.int _ _)
  |str=>exact .d (.str _)
  |nilp=>exact .d .nilp
  |sl0=>cases hf
  |sl=>cases hf
 |nils=>exact .nils
 |nilf=>exact .nilf
 |nili=>exact .nili
 |_=>cases hf
theorem jp0 {μ':Pl} {h':aB} {w':World} {l:V} {v:Value} (hl:aZ w μ h l v) (hf:sR l=true):aZ w' μ' h' l v:=by
 induction hl with
 |one ho hl=>exact .one ho (zT2 hf hl)
 |top=>cases hf
 |agg e1 e2 e3=>
  refine .agg e1 (fun j l v hj hv=>zT2 ?_ (e2 j l v hj hv)) e3;exact List.all_eq_true.1 hf l (List.mem_of_getElem? hj)
 |@tup vs cs e1 e2 ih=>
  refine .tup e1 (fun j l v hj hv=>ih j l v hj hv ?_);have:∀(vs:List V) (j:Nat) (l:V),sR.flatVs vs=true→vs[j]?=some l→sR l=true:=by
   intro vs;induction vs with
   |nil=>intro j l _ hj;simp at hj
   |cons x r ih=>
    intro j l hf hj;simp only[sR.flatVs,ks2]at hf;cases j with
    |zero=>simp at hj;subst hj;exact hf.1
    |succ j=>exact ih j l hf.2 (by simpa using hj)
  exact this vs j l hf hj
theorem zT3 {f:FuncId} {avs:List V} {K:V→aB→Prop} (hv:zo3 P f avs h K) (H:aR w μ h) {args:Array Value} (ha:avs.length=args.size) (hr:∀(j:Nat) (v:V) (x:Value),avs[j]?=some v→args[j]?=some x→aZ w μ h v x) :
  CallsIn Fence.wide 0 P f args w fun e w'=>∃r x h' μ',e = .returned x∧K r h'∧aR w' μ' h'∧aZ w' μ' h' r x∧Good w μ h w' μ' h':=by
 obtain⟨ids,avs',hs,Post,hn,hlend,hhand,hc,hk⟩:=hv;have hlent:=zp0 hlend;have hlt:∀(k id:Nat),ids[k]?=some id→id<h.length:=by
  intro k id hk;obtain⟨o,o',a,_⟩:=(pL hhand).2 k id hk;exact(kp9.1 a).1
 obtain⟨H0,g0⟩:=zS5 (dM ids avs) H;have args_ok:∀{hb:aB},aR w μ hb→bA hb (idx ids) ids=some hs→cE hb ids avs=some avs'→(∀(j:Nat) (v:V) (x:Value),avs[j]?=some v→args[j]?=some x→aZ w μ hb v x)→
   avs'.length=args.size∧∀(j:Nat) (v:V) (x:Value),avs'[j]?=some v→args[j]?=some x→aZ w (gE μ hb ids (dM ids avs)) hs v x:=by
  intro hb Hb hhb hlb hrb;obtain⟨e1,e2⟩:=zo8 hlb;refine⟨e1.trans ha,fun j v x hj hx=>?_⟩;obtain⟨v0,b1,b2,b3⟩:=e2 j v hj;exact zS1 Hb hhb (hrb j v0 x b1 hx) b2 b3
 have hhand0:bA (eB h (dM ids avs)) (idx ids) ids=some hs:=by
  rw[zT1]
  ·exact hhand
  ·intro id hi hm;obtain⟨k,hk⟩:=List.getElem?_of_mem hi;exact qZ (hlent id hm).1 k hk
 have hlend0:cE (eB h (dM ids avs)) ids avs=some avs':=by rw[zT0];exact hlend
 obtain⟨a1,a2⟩:=args_ok H0 hhand0 hlend0 (fun j v x hj hx=>(hr j v x hj hx).good g0);refine(hc.2 w (gE μ (eB h (dM ids avs)) ids (dM ids avs)) args (zS2 hn H0 hhand0) a1 a2).mono ?_;rintro e w' ⟨r,x,hs',μs,rfl,hp,Hs,hrx,G⟩;obtain⟨r',h',hb,hK⟩:=hk r hs' hp;unfold mE at hb;split at hb
 ·rename_i hflat
  cases hb;simp only[ks2,List.isEmpty_iff]at hflat
  obtain⟨⟨hids,hfl⟩,hse⟩:=hflat
  subst hids;subst hse;have hs0:hs=[]:=by
   have:=(pL hhand).1;simpa using this
  subst hs0;have g:Good w μ h w' μ h:=by
   have hno:∀b,¬Lv (gE μ (eB h (dM [] avs)) [] (dM [] avs)) [] b:=by rintro b ⟨k,o,h1,_⟩;simp at h1
   exact⟨G.os,G.tape,G.output,G.size,rfl,fun b hb _=>G.block b hb (hno b),G.shape,fun b hb=>.inl hb,Nat.le_refl _,fun id ty cells hid=>.inr ⟨cells,ty,hid,rfl,rfl⟩,
    fun id ty fz sz ver xs hid=>.inr ⟨fz,sz,ver,xs,ty,hid,.inl ⟨rfl,rfl,rfl,rfl⟩⟩,fun _ hid=>hid⟩
  have hblk:∀b,b<w.heap.size→w'.heap[b]?=w.heap[b]?:=fun b hb=>G.block b hb (by rintro⟨k,o,h1,_⟩;simp at h1);refine⟨_,x,h,μ,rfl,hK,⟨?_,?_,H.apart,H.off,fun b hb=>kD7 (H.old b hb) G.size,fun i o b hi hb=>(H.ty i o b hi hb).good g,H.tabs g⟩,jp0 hrx hfl,g⟩
  ·intro id ty cells hid;obtain⟨b,cs,T,h1,h2,h3,h4,h5⟩:=H.box _ _ hid;exact⟨b,cs,T,h1,(hblk b (kt0.1 h2).1).trans h2,h3,h4,fun j l v hj hv=>(h5 j l v hj hv).good g⟩
  ·intro id ty fz sz ver xs hid;rcases H.arr _ _ _ _ _ hid with hn'|⟨b,cs,T,h1,h2,h3,h4,h5,h6⟩
   ·exact .inl hn'
   ·exact .inr ⟨b,cs,T,h1,(hblk b (kt0.1 h2).1).trans h2,h3,h4,h5,fun i j e x hi hj=>let ⟨v,a,d⟩:=h6 i j e x hi hj;⟨v,a,d.good g⟩⟩
 ·split at hb
  ·rename_i r1 os hr1 hos;simp only[Option.some.injEq,Prod.mk.injEq]at hb;obtain⟨hb1,hb2⟩:=hb;subst hb1;subst hb2;have hlen0:=zS4 (dM ids avs) h;have hlt0:∀(k id:Nat),ids[k]?=some id→id<(eB h (dM ids avs)).length:=by rw[hlen0];exact hlt
   have hX:∀(id:Nat) (o:aI),(eB h (dM ids avs))[id]?=some o→id∈dM ids avs→o.live=false:=by
    intro id o ho hm;rw[zc9,if_pos hm]at ho;obtain⟨_,ty,fz,sz,ver,xs,hid⟩:=hlent id hm;rw[hid]at ho;cases ho;rfl
   have hos':jN (dN ids (eB h (dM ids avs)).length) hs'=some os:=by rw[hlen0];exact hos
   have hr1':=hr1;rw[←hlen0]at hr1';refine⟨_,x,_,oQ μ μs (eB h (dM ids avs)).length ids,rfl,hK,jo9 hn hlt0 hhand0 G hos' H0 Hs hX,?_,g0.trans (zS7 hn hlt0 hhand0 G hos')⟩;exact jo6 (fun l l' v hl hl'=>zS6 hn hlt0 hhand0 G hos' hX hl hl') hrx hr1'
  ·cases hb
end Go.Vt
