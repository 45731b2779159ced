import Derived.Test.YtdabfkmhkoppcaaGreatDoorVtCall2
set_option linter.all false
open Array renaming getElem?_eq_some_iff→kg7
open Bool renaming and_eq_true→kf8
open List renaming getElem?_append_left→kf7,getElem?_append_right→kf4,getElem?_drop→kj1,getElem?_eq_getElem→ke7,getElem?_eq_some_iff→kd6,mem_append→kh1
open Nat renaming lt_of_lt_of_le→kr4
open Go.Vt.aJ renaming renLs→kg3
namespace Go.Vt
variable {P:Program} {w w':World} {μ μs:Pl} {h hs hs' os:aB} {ids lent:List Nat}
def nT (μ μs:Pl) (n:Nat) (ids:List Nat):Pl:=
 { at_:=fun id=>match idx ids id with|some k=>μs k|none=>if id<n then μ id else μs (ids.length+(id-n)),X:=μ.X }
theorem jg8 (hlt:∀(k id:Nat),ids[k]?=some id→id<h.length) {k id:Nat} (hk:dR ids h.length k=some id):(ids[k]?=some id∧id<h.length)∨(ids[k]?=none∧ids.length≤k∧id=h.length+(k-ids.length)∧idx ids id=none):=by
 unfold dR at hk;split at hk
 ·rename_i i hi;cases hk;exact .inl ⟨hi,hlt _ _ hi⟩
 ·rename_i hi;cases hk;refine .inr ⟨hi,by simpa using hi,rfl,?_⟩;cases hx:idx ids (h.length+(k-ids.length))with
  |none=>rfl
  |some q=>have:=hlt _ _ (kS hx);omega
theorem vV (hn:bK ids=true) (hlt:∀(k id:Nat),ids[k]?=some id→id<h.length) (hl:ids.length≤os.length) {k id:Nat} (hk:dR ids h.length k=some id) :
  (eS h ids (os.take ids.length)++os.drop ids.length)[id]?=os[k]?∧(nT μ μs h.length ids) id=μs k:=by
 have hpl:=vU ids (os.take ids.length) h;rcases jg8 hlt hk with⟨h1,h2⟩|⟨h1,h2,rfl,h4⟩
 ·have hi:=zP hn h1;refine⟨?_,?_⟩
  ·rw[kf7 (by rw[hpl];exact h2),zR hn (by simp;omega) hlt,hi];simp only;rw[List.getElem?_take_of_lt (kd6.1 h1).1]
  ·show(match idx ids id with|some k=>μs k|none=>_)=_;rw[hi]
 ·refine⟨?_,?_⟩
  ·rw[kf4 (by rw[hpl];omega),hpl,kj1]
   congr 1;omega
  ·show(match idx ids _ with|some k=>μs k|none=>if _ then _ else _)=_;rw[h4];simp only;rw[if_neg (by omega)]
   congr 1;omega
theorem lF (hn:bK ids=true) (hlt:∀(k id:Nat),ids[k]?=some id→id<h.length) (hl:ids.length≤os.length) {id:Nat} (hid:id<h.length) (hi:idx ids id=none) :
  (eS h ids (os.take ids.length)++os.drop ids.length)[id]?=h[id]?∧(nT μ μs h.length ids) id=μ id:=by
 have hpl:=vU ids (os.take ids.length) h;refine⟨?_,?_⟩
 ·rw[kf7 (by rw[hpl];exact hid),zR hn (by simp;omega) hlt,hi]
 ·show(match idx ids id with|some k=>μs k|none=>if _ then _ else _)=_;rw[hi];simp[hid]
theorem pX (hn:bK ids=true) (hlt:∀(k id:Nat),ids[k]?=some id→id<h.length) (hl:ids.length≤os.length) {id:Nat} {o:aN}
  (ho:(eS h ids (os.take ids.length)++os.drop ids.length)[id]?=some o):(id<h.length∧idx ids id=none∧h[id]?=some o)∨∃k,dR ids h.length k=some id∧os[k]?=some o:=by
 have hpl:=vU ids (os.take ids.length) h;rcases Nat.lt_or_ge id h.length with hid|hid
 ·cases hi:idx ids id with
  |none=>exact .inl ⟨hid,rfl,by rw[←(lF (μ:=⟨fun _=>none,fun _=>False⟩) (μs:=⟨fun _=>none,fun _=>False⟩) hn hlt hl hid hi).1];exact ho⟩
  |some k=>
   have hk:=kS hi;refine .inr ⟨k,by simp[dR,hk],?_⟩;rw[←(vV (μ:=⟨fun _=>none,fun _=>False⟩) (μs:=⟨fun _=>none,fun _=>False⟩) hn hlt hl (k:=k) (id:=id) (by simp[dR,hk])).1];exact ho
 ·rw[kf4 (by rw[hpl];exact hid),hpl,kj1]at ho;refine .inr ⟨ids.length+(id-h.length),?_,ho⟩;have:ids[ids.length+(id-h.length)]?=none:=by simp
  simp only[dR,this]
  congr 1;omega
theorem zT (hh:bB h (idx ids) ids=some hs) (G:Good w (fG μ h ids lent) hs w' μs hs') (hos:iU (dR ids h.length) hs'=some os):ids.length≤os.length:=by
 have:=G.len;have:=(tD hos).1;have:=(oX hh).1;omega
theorem tG (hn:bK ids=true) (hlt:∀(k id:Nat),ids[k]?=some id→id<h.length) (hh:bB h (idx ids) ids=some hs) (G:Good w (fG μ h ids lent) hs w' μs hs') (hos:iU (dR ids h.length) hs'=some os) {k id:Nat} {o:aN} (hk:dR ids h.length k=some id) (ho:hs'[k]?=some o) :
  ∃o',(eS h ids (os.take ids.length)++os.drop ids.length)[id]?=some o'∧bH (dR ids h.length) o=some o'∧(nT μ μs h.length ids) id=μs k:=by
 obtain⟨o',h1,h2⟩:=(tD hos).2 k o ho;obtain⟨a,b⟩:=vV (μ:=μ) (μs:=μs) hn hlt (zT hh G hos) hk;exact⟨o',a.trans h1,h2,b⟩
theorem zk2 (hn:bK ids=true) (hlt:∀(k id:Nat),ids[k]?=some id→id<h.length) (hh:bB h (idx ids) ids=some hs) (G:Good w (fG μ h ids lent) hs w' μs hs') (hos:iU (dR ids h.length) hs'=some os) (hX:∀(id:Nat) (o:aN),h[id]?=some o→id∈lent→o.live=false) (b:Nat) (hb:Mut (nT μ μs h.length ids) (eS h ids (os.take ids.length)++os.drop ids.length) b):Mut μs hs' b:=by
 have hl:=zT hh G hos;rcases hb with⟨id,o,h1,h2,h3⟩|hb
 ·rcases pX hn hlt hl h1 with⟨a1,a2,a3⟩|⟨k,a1,a2⟩
  ·rw[(lF (μ:=μ) (μs:=μs) hn hlt hl a1 a2).2]at h3;refine .inr ?_;rw[G.out];exact .inr ⟨id,o,a3,h2,h3,pW a2,fun hi=>by rw[hX _ _ a3 hi]at h2;cases h2⟩
  ·rw[(vV (μ:=μ) (μs:=μs) hn hlt hl a1).2]at h3;obtain⟨e1,e2⟩:=tD hos;have hkl:k<hs'.length:=by have:=(kd6.1 a2).1;omega
   obtain⟨o',b1,b2⟩:=e2 k _ (ke7 hkl);rw[a2]at b1;cases b1;exact .inl ⟨k,_,ke7 hkl,by rw[←(mW b2).1];exact h2,h3⟩
 ·refine .inr ?_;rw[G.out];exact .inl hb
section
theorem zL8 (hn:bK ids=true) (hlt:∀(k id:Nat),ids[k]?=some id→id<h.length) (hh:bB h (idx ids) ids=some hs) (G:Good w (fG μ h ids lent) hs w' μs hs') (hos:iU (dR ids h.length) hs'=some os) (hX:∀(id:Nat) (o:aN),h[id]?=some o→id∈lent→o.live=false) {l l':L} {v:Value} (hl:bE w' μs hs' l v) (hr:aJ (dR ids h.length) l=some l'):bE w' (nT μ μs h.length ids) (eS h ids (os.take ids.length)++os.drop ids.length) l' v:=
 zL0 (fun _ _ hd=>hd.step (fun _ _ _=>rfl) (fun b hb=>.inl (zk2 hn hlt hh G hos hX b hb))) (zk2 hn hlt hh G hos hX) (fun _ _ _ hm ho=>tG hn hlt hh G hos hm ho) hl hr
theorem zL9 (hn:bK ids=true) (hlt:∀(k id:Nat),ids[k]?=some id→id<h.length) (hh:bB h (idx ids) ids=some hs) (G:Good w (fG μ h ids lent) hs w' μs hs') (hos:iU (dR ids h.length) hs'=some os):Good w μ h w' (nT μ μs h.length ids) (eS h ids (os.take ids.length)++os.drop ids.length):=by
 have hl:=zT hh G hos;have old:∀{id:Nat} {o:aN},h[id]?=some o→idx ids id=none→(eS h ids (os.take ids.length)++os.drop ids.length)[id]?=some o∧(nT μ μs h.length ids) id=μ id:=by
  intro id o ho hi;obtain⟨a,b⟩:=lF (μ:=μ) (μs:=μs) hn hlt hl (kd6.1 ho).1 hi;exact⟨a.trans ho,b⟩
 have hand:∀{id k:Nat} {o:aN},h[id]?=some o→idx ids id=some k→∃o1,hs[k]?=some o1∧bH (idx ids) o=some o1∧(fG μ h ids lent) k=μ id∧dR ids h.length k=some id:=by
  intro id k o ho hi;obtain⟨o1,a,b,c⟩:=zj9 (μ:=μ) (lent:=lent) hh hi ho;exact⟨o1,a,b,c,by simp[dR,kS hi]⟩
 refine⟨G.os,G.tape,G.output,G.size,rfl,?_,G.shape,?_,?_,?_,?_,?_⟩
 ·intro b hb hnl;refine G.block b hb (fun hlv=>?_);obtain⟨k,id,o,a1,a2,a3,a4⟩:=rO hh hlv;exact hnl ⟨id,o,a2,a3,a4⟩
 ·intro b hb;obtain⟨id,o,h1,h2,h3⟩:=hb;rcases pX hn hlt hl h1 with⟨a1,a2,a3⟩|⟨k,a1,a2⟩
  ·rw[(lF (μ:=μ) (μs:=μs) hn hlt hl a1 a2).2]at h3;exact .inl ⟨id,o,a3,h2,h3⟩
  ·rw[(vV (μ:=μ) (μs:=μs) hn hlt hl a1).2]at h3;obtain⟨e1,e2⟩:=tD hos;have hkl:k<hs'.length:=by have:=(kd6.1 a2).1;omega
   obtain⟨o',b1,b2⟩:=e2 k _ (ke7 hkl);rw[a2]at b1;cases b1;rcases G.fresh b ⟨k,_,ke7 hkl,by rw[←(mW b2).1];exact h2,h3⟩with hlv|hge
   ·obtain⟨k,id,o,c1,c2,c3,c4⟩:=rO hh hlv;exact .inl ⟨id,o,c2,c3,c4⟩
   ·exact .inr hge
 ·simp[vU]
 ·intro id ty cells hid;cases hi:idx ids id with
  |none=>obtain⟨a,b⟩:=old hid hi;exact .inr ⟨cells,ty,a,rfl,b⟩
  |some k=>
   obtain⟨o1,a,b,c,d⟩:=hand hid hi;simp only[bH]at b;cases hc:kg3 (idx ids) cells with
   |none=>simp[hc]at b
   |some c1=>
    simp[hc]at b;subst b;have e1:=(mV hc).1;rcases G.boxes _ _ a with hd|⟨c2,y2,x1,x2,x3⟩
    ·obtain⟨o',y1,y2,y3⟩:=tG hn hlt hh G hos d hd;cases y2;exact .inl y1
    ·obtain⟨o',y1,y2,y3⟩:=tG hn hlt hh G hos d x1;simp only[bH]at y2;cases hc2:kg3 (dR ids h.length) c2 with
     |none=>simp[hc2]at y2
     |some c3=>
      simp[hc2]at y2;subst y2;have e2:=(mV hc2).1;exact .inr ⟨c3,_,y1,by omega,y3.trans (x3.trans c)⟩
 ·intro id ty fz sz ver xs hid;cases hi:idx ids id with
  |none=>obtain⟨a,b⟩:=old hid hi;exact .inr ⟨fz,sz,ver,xs,ty,a,.inl ⟨rfl,rfl,rfl,b⟩⟩
  |some k=>
   obtain⟨o1,a,b,c,d⟩:=hand hid hi;cases b;rcases G.arrs _ _ _ _ _ a with hd|⟨f2,s2,v2,x2,y2,x1,x3⟩
   ·obtain⟨o',y1,y2,y3⟩:=tG hn hlt hh G hos d hd;cases y2;exact .inl y1
   ·obtain⟨o',y1,y2,y3⟩:=tG hn hlt hh G hos d x1;cases y2;refine .inr ⟨f2,s2,v2,x2,_,y1,?_⟩;rcases x3 with⟨p1,p2,p3,p4⟩|p
    ·exact .inl ⟨p1,p2,p3,y3.trans (p4.trans c)⟩
    ·exact .inr p
 ·intro id hid;cases hi:idx ids id with
  |none=>exact(old hid hi).1
  |some k=>
   obtain⟨o1,a,b,c,d⟩:=hand hid hi;cases b;obtain⟨o',y1,y2,y3⟩:=tG hn hlt hh G hos d (G.deads _ a);cases y2;exact y1
theorem jg9 (hn:bK ids=true) (hlt:∀(k id:Nat),ids[k]?=some id→id<h.length) (hh:bB h (idx ids) ids=some hs) (G:Good w (fG μ h ids lent) hs w' μs hs') (hos:iU (dR ids h.length) hs'=some os) (H:aW w μ h) (Hs:aW w' μs hs') (hX:∀(id:Nat) (o:aN),h[id]?=some o→id∈lent→o.live=false):aW w' (nT μ μs h.length ids) (eS h ids (os.take ids.length)++os.drop ids.length):=by
 have hl:=zT hh G hos;have g:=zL9 hn hlt hh G hos;obtain⟨e1,e2⟩:=tD hos;have home:∀{k id:Nat} {o:aN},dR ids h.length k=some id→os[k]?=some o→∃o0,hs'[k]?=some o0∧bH (dR ids h.length) o0=some o∧(nT μ μs h.length ids) id=μs k:=by
  intro k id o hk ho;have hkl:k<hs'.length:=by have:=(kd6.1 ho).1;omega
  obtain⟨o',b1,b2⟩:=e2 k _ (ke7 hkl);rw[ho]at b1;cases b1;exact⟨_,ke7 hkl,b2,(vV (μ:=μ) (μs:=μs) hn hlt hl hk).2⟩
 have ltOf:∀{id b:Nat} {o:aN},h[id]?=some o→o.there=true→μ id=some b→b<w.heap.size:=by
  intro id b o ho ht hm;cases o with
  |bx ty cells=>obtain⟨b',cs,T,a1,a2,_⟩:=H.box _ _ ho;rw[hm]at a1;cases a1;exact(kg7.1 a2).1
  |ar ty fz sz ver xs=>
   rcases H.arr _ _ _ _ _ ho with⟨hn',_⟩|⟨b',cs,T,a1,a2,_⟩
   ·rw[hm]at hn';cases hn'
   ·rw[hm]at a1;cases a1;exact(kg7.1 a2).1
  |dead=>cases ht
 have same:∀{id b:Nat} {o:aN},h[id]?=some o→o.there=true→idx ids id=none→μ id=some b→w'.heap[b]?=w.heap[b]?:=by
  intro id b o ho ht hi hm;refine G.block b (ltOf ho ht hm) (fun hlv=>?_);obtain⟨k,id2,o2,c1,c2,c3,c4⟩:=rO hh hlv;have:=H.apart _ _ _ _ _ c2 ho c3 ht c4 hm;subst this;exact pW hi k c1
 refine⟨?_,?_,?_,?_,?_,fun id o b hid hb=>by
  rcases pX hn hlt hl hid with⟨a1,a2,a3⟩|⟨k,a1,a2⟩
  ·exact(H.ty _ _ _ a3 ((lF (μ:=μ) (μs:=μs) hn hlt hl a1 a2).2.symm.trans hb)).good g
  ·obtain⟨o0,b1,b2,b3⟩:=home a1 a2;exact zK9 b2 (Hs.ty _ _ _ b1 (b3.symm.trans hb))⟩
 ·intro id ty cells hid;rcases pX hn hlt hl hid with⟨a1,a2,a3⟩|⟨k,a1,a2⟩
  ·obtain⟨b,cs,T,h1,h2,h3,h4,h5⟩:=H.box _ _ a3;exact⟨b,cs,T,(lF (μ:=μ) (μs:=μs) hn hlt hl a1 a2).2.trans h1,(same a3 rfl a2 h1).trans h2,h3,h4,fun j l v hj hv=>(h5 j l v hj hv).good g⟩
  ·obtain⟨o0,b1,b2,b3⟩:=home a1 a2;cases o0 with
   |bx ty c0=>
    simp only[bH]at b2;cases hc:kg3 (dR ids h.length) c0 with
    |none=>simp[hc]at b2
    |some c1=>
     simp[hc]at b2;obtain⟨rfl,rfl⟩:=b2;obtain⟨b,cs,T,h1,h2,h3,h4,h5⟩:=Hs.box _ _ b1;obtain⟨r1,r2⟩:=mV hc;refine⟨b,cs,T,b3.trans h1,h2,by omega,h4,fun j l v hj hv=>?_⟩;obtain⟨l0,x1,x2⟩:=r2 j l hj;exact zL8 hn hlt hh G hos hX (h5 j l0 v x1 hv) x2
   |ar=>cases b2
   |dead=>cases b2
 ·intro id ty fz sz ver xs hid;rcases pX hn hlt hl hid with⟨a1,a2,a3⟩|⟨k,a1,a2⟩
  ·rcases H.arr _ _ _ _ _ a3 with⟨hn',hx⟩|⟨b,cs,T,h1,h2,h3,h4,h5,h6⟩
   ·exact .inl ⟨(lF (μ:=μ) (μs:=μs) hn hlt hl a1 a2).2.trans hn',hx⟩
   ·exact .inr ⟨b,cs,T,(lF (μ:=μ) (μs:=μs) hn hlt hl a1 a2).2.trans h1,(same a3 rfl a2 h1).trans h2,h3,h4,h5,fun i j e x hi hj=>let ⟨v,a,d⟩:=h6 i j e x hi hj;⟨v,a,d.good g⟩⟩
  ·obtain⟨o0,b1,b2,b3⟩:=home a1 a2;cases o0 with
   |bx ty c0=>
    simp only[bH]at b2;cases hc:kg3 (dR ids h.length) c0 with
    |none=>simp[hc]at b2
    |some c1=>simp[hc]at b2
   |ar=>
    cases b2;rcases Hs.arr _ _ _ _ _ b1 with⟨hn',hx⟩|⟨b,cs,T,h1,h2,h3,h4,h5,h6⟩
    ·exact .inl ⟨b3.trans hn',hx⟩
    ·exact .inr ⟨b,cs,T,b3.trans h1,h2,h3,h4,h5,fun i j e x hi hj=>let ⟨v,a,d⟩:=h6 i j e x hi hj;⟨v,a,d.step (fun _ _ _=>rfl) (fun b hb=>.inl (zk2 hn hlt hh G hos hX b hb))⟩⟩
   |dead=>cases b2
 ·intro i j o o' b hi hj t1 t2 m1 m2;rcases pX hn hlt hl hi with⟨a1,a2,a3⟩|⟨k,a1,a2⟩<;>rcases pX hn hlt hl hj with⟨c1,c2,c3⟩|⟨q,c1,c2⟩
  ·rw[(lF (μ:=μ) (μs:=μs) hn hlt hl a1 a2).2]at m1;rw[(lF (μ:=μ) (μs:=μs) hn hlt hl c1 c2).2]at m2;exact H.apart _ _ _ _ b a3 c3 t1 t2 m1 m2
  ·rw[(lF (μ:=μ) (μs:=μs) hn hlt hl a1 a2).2]at m1;obtain⟨o0,b1,b2,b3⟩:=home c1 c2;rw[b3]at m2;exfalso;refine Hs.off _ _ _ b1 (by rw[←(mW b2).2];exact t2) m2 ?_;rw[G.out];exact .inr ⟨i,o,a3,t1,m1,pW a2,fun hi=>by rw[hX _ _ a3 hi]at t1;cases t1⟩
  ·obtain⟨o0,b1,b2,b3⟩:=home a1 a2;rw[b3]at m1;rw[(lF (μ:=μ) (μs:=μs) hn hlt hl c1 c2).2]at m2;exfalso;have hlive:o0.live=true:=by rw[←(mW b2).1];exact t1
   rcases G.fresh b ⟨k,o0,b1,hlive,m1⟩with hlv|hge
   ·obtain⟨k2,id2,o2,x1,x2,x3,x4⟩:=rO hh hlv;have:=H.apart _ _ _ _ _ x2 c3 x3 t2 x4 m2;subst this;exact pW c2 k2 x1
   ·have:=ltOf c3 t2 m2;omega
  ·obtain⟨o0,b1,b2,b3⟩:=home a1 a2;obtain⟨o0',b1',b2',b3'⟩:=home c1 c2;rw[b3]at m1;rw[b3']at m2;have:=Hs.apart _ _ _ _ b b1 b1' (by rw[←(mW b2).1];exact t1) (by rw[←(mW b2').2];exact t2) m1 m2;subst this;rw[a1]at c1;cases c1;rfl
 ·intro i o b hi t1 m1;rcases pX hn hlt hl hi with⟨a1,a2,a3⟩|⟨k,a1,a2⟩
  ·rw[(lF (μ:=μ) (μs:=μs) hn hlt hl a1 a2).2]at m1;exact H.off _ _ _ a3 t1 m1
  ·obtain⟨o0,b1,b2,b3⟩:=home a1 a2;rw[b3]at m1;intro hx;refine Hs.off _ _ _ b1 (by rw[←(mW b2).2];exact t1) m1 ?_;rw[G.out];exact .inl hx
 ·intro b hb;exact kr4 (H.old b hb) G.size
end
theorem zk3:∀{vs vs':List V} {ids:List Nat},cL h ids vs=some vs'→∀id∈dK ids vs,idx ids id=none∧∃ty fz sz ver xs,h[id]?=some (.ar ty fz sz ver xs)
 |[],_,_,_,id,hi=>by simp[dK]at hi
 |v::r,vs',ids,hh,id,hi=>by
  unfold cL at hh;split at hh
  ·rename_i x xs hx hxs;simp only[dK,kh1]at hi;have hl:∀l l',bO h ids l=some l'→id∈jZ ids l→idx ids id=none∧∃ty fz sz ver xs,h[id]?=some (.ar ty fz sz ver xs):=by
    intro l l' hl hm;cases l with
    |own k ver len=>
     simp only[jZ]at hm;cases hk:idx ids k with
     |some q=>simp[hk]at hm
     |none=>
      simp[hk]at hm;subst hm;simp only[bO,hk]at hl;split at hl
      ·rename_i fz sz ver' xs hid;exact⟨hk,_,_,_,_,_,hid⟩
      ·cases hl
    |_=>simp[jZ]at hm
   rcases hi with hi|hi
   ·cases v with
    |one l=>
     simp only[bM]at hx;cases hl':bO h ids l with
     |none=>simp[hl']at hx
     |some l'=>exact hl l l' hl' hi
    |agg ls=>
     simp only[bM]at hx;cases hl':dG h ids ls with
     |none=>simp[hl']at hx
     |some ls'=>
      clear hx hxs;simp only[lD]at hi;induction ls generalizing ls' with
      |nil=>simp[kR]at hi
      |cons l r ih=>
       unfold dG at hl';split at hl'
       ·rename_i y ys hy hys;simp only[kR,kh1]at hi;rcases hi with hi|hi
        ·exact hl l y hy hi
        ·exact ih hi ys hys
       ·cases hl'
    |tup _=>simp only[bM]at hx;cases hx
   ·exact zk3 hxs id hi
  ·cases hh
theorem zM0 (ids lent:List Nat):(∀l,bO (eC h lent) ids l=bO h ids l):=by
 intro l;cases l with
 |own id ver len=>
  simp only[bO,zS];cases idx ids id with
  |some k=>rfl
  |none=>
   simp only;by_cases hm:id∈lent
   ·rw[if_pos hm];cases h[id]? with
    |none=>rfl
    |some o=>cases o<;>rfl
   ·rw[if_neg hm]
 |_=>rfl
theorem zM1 (ids lent:List Nat):∀ls,dG (eC h lent) ids ls=dG h ids ls
 |[]=>rfl
 |l::r=>by simp only[dG,zM0,zM1 ids lent r]
theorem zM2 (ids lent:List Nat):∀vs,cL (eC h lent) ids vs=cL h ids vs
 |[]=>rfl
 |v::r=>by
  have:bM (eC h lent) ids v=bM h ids v:=by cases v<;>simp only[bM,zM0,zM1]
  simp only[cL,this,zM2 ids lent r]
theorem zM3 {lent:List Nat} (m:Nat→Option Nat):∀{l:List Nat},(∀id∈l,id∉lent)→bB (eC h lent) m l=bB h m l
 |[],_=>rfl
 |id::r,hl=>by
  have ih:bB (eC h lent) m r=bB h m r:=zM3 m (fun i hi=>hl i (List.mem_cons_of_mem _ hi));simp only[bB,zS,if_neg (hl id (by simp)),ih]
theorem zM4 {μ':Pl} {h':aB} {w':World} {l:L} {v:Value} (hf:zO l=true) (hl:bE w μ h l v):bE w' μ' h' l v:=by
 cases hl with
 |d hd=>
  cases hd with
  |bool=>exact .d (.bool _)
  |int=>exact .d (.int _ _)
  |str=>exact .d (.str _)
  |nilp=>exact .d .nilp
  |sl0=>cases hf
  |sl=>cases hf
 |nils=>exact .nils
 |nilf=>exact .nilf
 |nili=>exact .nili
 |_=>cases hf
theorem jh0 {μ':Pl} {h':aB} {w':World} {l:V} {v:Value} (hl:bF w μ h l v) (hf:rL l=true):bF w' μ' h' l v:=by
 induction hl with
 |one ho hl=>exact .one ho (zM4 hf hl)
 |top=>cases hf
 |agg e1 e2 e3=>
  refine .agg e1 (fun j l v hj hv=>zM4 ?_ (e2 j l v hj hv)) e3;exact List.all_eq_true.1 hf l (List.mem_of_getElem? hj)
 |@tup vs cs e1 e2 ih=>
  refine .tup e1 (fun j l v hj hv=>ih j l v hj hv ?_);have:∀(vs:List V) (j:Nat) (l:V),rL.flatVs vs=true→vs[j]?=some l→rL l=true:=by
   intro vs;induction vs with
   |nil=>intro j l _ hj;simp at hj
   |cons x r ih=>
    intro j l hf hj;simp only[rL.flatVs,kf8]at hf;cases j with
    |zero=>simp at hj;subst hj;exact hf.1
    |succ j=>exact ih j l hf.2 (by simpa using hj)
  exact this vs j l hf hj
theorem zM5 {f:FuncId} {avs:List V} {K:V→aB→Prop} (hv:zj6 P f avs h K) (H:aW w μ h) {args:Array Value} (ha:avs.length=args.size) (hr:∀(j:Nat) (v:V) (x:Value),avs[j]?=some v→args[j]?=some x→bF w μ h v x) :
  CallsIn Fence.wide 0 P f args w fun e w'=>∃r x h' μ',e = .returned x∧K r h'∧aW w' μ' h'∧bF w' μ' h' r x∧Good w μ h w' μ' h':=by
 obtain⟨ids,avs',hs,Post,hn,hlend,hhand,hc,hk⟩:=hv;have hlent:=zk3 hlend;have hlt:∀(k id:Nat),ids[k]?=some id→id<h.length:=by
  intro k id hk;obtain⟨o,o',a,_⟩:=(oX hhand).2 k id hk;exact(kd6.1 a).1
 obtain⟨H0,g0⟩:=zL7 (dK ids avs) H;have args_ok:∀{hb:aB},aW w μ hb→bB hb (idx ids) ids=some hs→cL hb ids avs=some avs'→(∀(j:Nat) (v:V) (x:Value),avs[j]?=some v→args[j]?=some x→bF w μ hb v x)→
   avs'.length=args.size∧∀(j:Nat) (v:V) (x:Value),avs'[j]?=some v→args[j]?=some x→bF w (fG μ hb ids (dK ids avs)) hs v x:=by
  intro hb Hb hhb hlb hrb;obtain⟨e1,e2⟩:=zk1 hlb;refine⟨e1.trans ha,fun j v x hj hx=>?_⟩;obtain⟨v0,b1,b2,b3⟩:=e2 j v hj;exact zL3 Hb hhb (hrb j v0 x b1 hx) b2 b3
 have hhand0:bB (eC h (dK ids avs)) (idx ids) ids=some hs:=by
  rw[zM3]
  ·exact hhand
  ·intro id hi hm;obtain⟨k,hk⟩:=List.getElem?_of_mem hi;exact pW (hlent id hm).1 k hk
 have hlend0:cL (eC h (dK ids avs)) ids avs=some avs':=by rw[zM2];exact hlend
 obtain⟨a1,a2⟩:=args_ok H0 hhand0 hlend0 (fun j v x hj hx=>(hr j v x hj hx).good g0);refine(hc.2 w (fG μ (eC h (dK ids avs)) ids (dK ids avs)) args (zL4 hn H0 hhand0) a1 a2).mono ?_;rintro e w' ⟨r,x,hs',μs,rfl,hp,Hs,hrx,G⟩;obtain⟨r',h',hb,hK⟩:=hk r hs' hp;unfold lE at hb;split at hb
 ·rename_i hflat
  cases hb;simp only[kf8,List.isEmpty_iff]at hflat
  obtain⟨⟨hids,hfl⟩,hse⟩:=hflat
  subst hids;subst hse;have hs0:hs=[]:=by
   have:=(oX hhand).1;simpa using this
  subst hs0;have g:Good w μ h w' μ h:=by
   have hno:∀b,¬Lv (fG μ (eC h (dK [] avs)) [] (dK [] avs)) [] b:=by rintro b ⟨k,o,h1,_⟩;simp at h1
   exact⟨G.os,G.tape,G.output,G.size,rfl,fun b hb _=>G.block b hb (hno b),G.shape,fun b hb=>.inl hb,Nat.le_refl _,fun id ty cells hid=>.inr ⟨cells,ty,hid,rfl,rfl⟩,
    fun id ty fz sz ver xs hid=>.inr ⟨fz,sz,ver,xs,ty,hid,.inl ⟨rfl,rfl,rfl,rfl⟩⟩,fun _ hid=>hid⟩
  have hblk:∀b,b<w.heap.size→w'.heap[b]?=w.heap[b]?:=fun b hb=>G.block b hb (by rintro⟨k,o,h1,_⟩;simp at h1);refine⟨_,x,h,μ,rfl,hK,⟨?_,?_,H.apart,H.off,fun b hb=>kr4 (H.old b hb) G.size,fun i o b hi hb=>(H.ty i o b hi hb).good g⟩,jh0 hrx hfl,g⟩
  ·intro id ty cells hid;obtain⟨b,cs,T,h1,h2,h3,h4,h5⟩:=H.box _ _ hid;exact⟨b,cs,T,h1,(hblk b (kg7.1 h2).1).trans h2,h3,h4,fun j l v hj hv=>(h5 j l v hj hv).good g⟩
  ·intro id ty fz sz ver xs hid;rcases H.arr _ _ _ _ _ hid with hn'|⟨b,cs,T,h1,h2,h3,h4,h5,h6⟩
   ·exact .inl hn'
   ·exact .inr ⟨b,cs,T,h1,(hblk b (kg7.1 h2).1).trans h2,h3,h4,h5,fun i j e x hi hj=>let ⟨v,a,d⟩:=h6 i j e x hi hj;⟨v,a,d.good g⟩⟩
 ·split at hb
  ·rename_i r1 os hr1 hos;simp only[Option.some.injEq,Prod.mk.injEq]at hb;obtain⟨hb1,hb2⟩:=hb;subst hb1;subst hb2;have hlen0:=zL6 (dK ids avs) h;have hlt0:∀(k id:Nat),ids[k]?=some id→id<(eC h (dK ids avs)).length:=by rw[hlen0];exact hlt
   have hX:∀(id:Nat) (o:aN),(eC h (dK ids avs))[id]?=some o→id∈dK ids avs→o.live=false:=by
    intro id o ho hm;rw[zS,if_pos hm]at ho;obtain⟨_,ty,fz,sz,ver,xs,hid⟩:=hlent id hm;rw[hid]at ho;cases ho;rfl
   have hos':iU (dR ids (eC h (dK ids avs)).length) hs'=some os:=by rw[hlen0];exact hos
   have hr1':=hr1;rw[←hlen0]at hr1';refine⟨_,x,_,nT μ μs (eC h (dK ids avs)).length ids,rfl,hK,jg9 hn hlt0 hhand0 G hos' H0 Hs hX,?_,g0.trans (zL9 hn hlt0 hhand0 G hos')⟩;exact jg6 (fun l l' v hl hl'=>zL8 hn hlt0 hhand0 G hos' hX hl hl') hrx hr1'
  ·cases hb
end Go.Vt
