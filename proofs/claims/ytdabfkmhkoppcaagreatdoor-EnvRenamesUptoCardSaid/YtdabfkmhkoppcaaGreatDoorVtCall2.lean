import Derived.Test.YtdabfkmhkoppcaaGreatDoorVtWk
set_option linter.all false
open Array renaming getElem?_eq_some_iff→kg7
open Bool renaming and_eq_true→kf8,not_eq_true'→kt3
open List renaming contains_eq_mem→kr7,getElem?_eq_getElem→ke7,getElem?_eq_some_iff→kd6,mem_of_getElem?→kd7
open Go.Vt.aJ renaming renLs→kg3
namespace Go.Vt
variable {P:Program} {w:World} {μ:Pl} {h:aB}
theorem kS:∀{ids:List Nat} {id k:Nat},idx ids id=some k→ids[k]?=some id
 |[],_,_,h=>by cases h
 |i::r,id,k,h=>by
  unfold idx at h;split at h
  ·rename_i e;cases h;simp[e]
  ·cases hr:idx r id with
   |none=>simp[hr]at h
   |some q=>simp[hr]at h;subst h;simpa using kS hr
theorem pW:∀{ids:List Nat} {id:Nat},idx ids id=none→∀k:Nat,ids[k]?≠some id
 |[],_,_,k=>by simp
 |i::r,id,h,k=>by
  unfold idx at h;split at h
  ·cases h
  ·rename_i e;cases hr:idx r id with
   |none=>
    cases k with
    |zero=>simp;exact e
    |succ k=>simpa using pW hr k
   |some q=>simp[hr]at h
theorem zj7:∀{ids:List Nat},bK ids=true→∀{i j x:Nat},ids[i]?=some x→ids[j]?=some x→i=j
 |[],_,i,j,x,h1,_=>by simp at h1
 |a::r,hn,i,j,x,h1,h2=>by
  simp only[bK,kf8,kt3,kr7,decide_eq_false_iff_not]at hn;cases i with
  |zero=>
   cases j with
   |zero=>rfl
   |succ j=>simp at h1 h2;subst h1;exact absurd (kd7 h2) hn.1
  |succ i=>
   cases j with
   |zero=>simp at h1 h2;subst h2;exact absurd (kd7 h1) hn.1
   |succ j=>simp at h1 h2;rw[zj7 hn.2 h1 h2]
theorem zP {ids:List Nat} (hn:bK ids=true) {id k:Nat} (hk:ids[k]?=some id):idx ids id=some k:=by
 cases h:idx ids id with
 |none=>exact absurd hk (pW h k)
 |some q=>rw[zj7 hn (kS h) hk]
theorem oX:∀{l:List Nat} {m:Nat→Option Nat} {hs:aB},bB h m l=some hs→hs.length=l.length∧∀(k id:Nat),l[k]?=some id→∃o o',h[id]?=some o∧bH m o=some o'∧hs[k]?=some o'
 |[],_,hs,hh=>by cases hh;exact⟨rfl,by simp⟩
 |i::r,m,hs,hh=>by
  unfold bB at hh;split at hh
  ·rename_i o ho;split at hh
   ·rename_i x xs hx hxs;cases hh;obtain⟨h1,h2⟩:=oX hxs;refine⟨by simp[h1],?_⟩;intro k id hk;cases k with
    |zero=>simp at hk;subst hk;exact⟨o,x,ho,hx,rfl⟩
    |succ k=>obtain⟨o,o',a,b,c⟩:=h2 k id (by simpa using hk);exact⟨o,o',a,b,by simpa using c⟩
   ·cases hh
  ·cases hh
theorem mV:∀{ls ls':List L} {m:Nat→Option Nat},kg3 m ls=some ls'→ls'.length=ls.length∧∀(j:Nat) (l':L),ls'[j]?=some l'→∃l,ls[j]?=some l∧aJ m l=some l'
 |[],ls',m,hh=>by simp[kg3]at hh;subst hh;exact⟨rfl,by simp⟩
 |l::r,ls',m,hh=>by
  unfold kg3 at hh;split at hh
  ·rename_i x xs hx hxs;cases hh;obtain⟨h1,h2⟩:=mV hxs;refine⟨by simp[h1],?_⟩;intro j l' hj;cases j with
   |zero=>simp at hj;subst hj;exact⟨l,rfl,hx⟩
   |succ j=>obtain⟨l0,a,b⟩:=h2 j l' (by simpa using hj);exact⟨l0,by simpa using a,b⟩
  ·cases hh
theorem mW {m:Nat→Option Nat} {o o':aN} (hr:bH m o=some o'):o'.live=o.live∧o'.there=o.there:=by
 cases o with
 |bx ty cells=>
  simp only[bH]at hr;cases hc:kg3 m cells with
  |none=>simp[hc]at hr
  |some c=>simp[hc]at hr;subst hr;exact⟨rfl,rfl⟩
 |ar=>cases hr;exact⟨rfl,rfl⟩
 |dead=>cases hr;exact⟨rfl,rfl⟩
theorem zK9 {w:World} {b:Nat} {m:Nat→Option Nat} {o o':aN} (hr:bH m o=some o') (h:o.tyOk w b):o'.tyOk w b:=by
 cases o with
 |bx ty cells=>
  simp only[bH]at hr;cases hc:kg3 m cells with
  |none=>simp[hc]at hr
  |some c=>
   simp[hc]at hr;subst hr;have:=(mV hc).1;cases ty with
   |none=>trivial
   |some T=>simp only[aN.tyOk]at h ⊢;rw[this];exact h
 |ar=>cases hr;exact h
 |dead=>cases hr;exact h
theorem zL0 {w:World} {μ μ':Pl} {h h':aB} {m:Nat→Option Nat} (hD:∀x v,cQ w (Mut μ h) x v→cQ w (Mut μ' h') x v) (hM:∀b,Mut μ' h' b→Mut μ h b)
  (hO:∀id k o,m id=some k→h[id]?=some o→∃o',h'[k]?=some o'∧bH m o=some o'∧μ' k=μ id) {l l':L} {v:Value} (hl:bE w μ h l v) (hr:aJ m l=some l'):bE w μ' h' l' v:=by
 have arr:∀{id k:Nat} {ty:Option TypeId} {fz:Bool} {sz ver:Nat} {xs:List (List D)},m id=some k→h[id]?=some (.ar ty fz sz ver xs)→h'[k]?=some (.ar ty fz sz ver xs)∧μ' k=μ id:=by
  intro id k ty fz sz ver xs hm hid;obtain⟨o',h1,h2,h3⟩:=hO _ _ _ hm hid;cases h2;exact⟨h1,h3⟩
 have box:∀{id k:Nat} {ty:Option TypeId} {cells:List L},m id=some k→h[id]?=some (.bx ty cells)→∃cells',h'[k]?=some (.bx ty cells')∧cells'.length=cells.length∧μ' k=μ id:=by
  intro id k ty cells hm hid;obtain⟨o',h1,h2,h3⟩:=hO _ _ _ hm hid;simp only[bH]at h2;cases hc:kg3 m cells with
  |none=>simp[hc]at h2
  |some c=>simp[hc]at h2;subst h2;exact⟨c,h1,(mV hc).1,h3⟩
 have dead:∀{id k:Nat},m id=some k→h[id]?=some .dead→h'[k]?=some .dead:=by
  intro id k hm hid;obtain⟨o',h1,h2,h3⟩:=hO _ _ _ hm hid;cases h2;exact h1
 induction hl generalizing l' with
 |d hd=>simp only[aJ]at hr;cases hr;exact .d (hD _ _ hd)
 |nils=>simp only[aJ]at hr;cases hr;exact .nils
 |@own id _ _ _ _ _ _ _ _ _ _ _ hid h1 h2 h3 h4 h5=>
  simp only[aJ]at hr;cases hm:m id with
  |none=>simp[hm]at hr
  |some k=>simp[hm]at hr;subst hr;obtain⟨a,b⟩:=arr hm hid;exact .own a h1 (b.trans h2) h3 h4 h5
 |@ownNil id _ _ _ _ _ hid h1=>
  simp only[aJ]at hr;cases hm:m id with
  |none=>simp[hm]at hr
  |some k=>simp[hm]at hr;subst hr;obtain⟨a,b⟩:=arr hm hid;exact .ownNil a (b.trans h1)
 |@ownOld id _ _ _ _ _ _ _ _ hid h1=>
  simp only[aJ]at hr;cases hm:m id with
  |none=>simp[hm]at hr
  |some k=>simp[hm]at hr;subst hr;obtain⟨a,b⟩:=arr hm hid;exact .ownOld a h1
 |@ownDead id _ _ _ hid=>
  simp only[aJ]at hr;cases hm:m id with
  |none=>simp[hm]at hr
  |some k=>simp[hm]at hr;subst hr;exact .ownDead (dead hm hid)
 |@ptr id _ _ _ _ hid h1 h2=>
  simp only[aJ]at hr;cases hm:m id with
  |none=>simp[hm]at hr
  |some k=>simp[hm]at hr;subst hr;obtain⟨c,a,b,e⟩:=box hm hid;exact .ptr a (by omega) (e.trans h2)
 |@ptrDead id _ _ hid=>
  simp only[aJ]at hr;cases hm:m id with
  |none=>simp[hm]at hr
  |some k=>simp[hm]at hr;subst hr;exact .ptrDead (dead hm hid)
 |@ept id _ _ _ _ _ _ _ _ hid h1 h2 h3=>
  simp only[aJ]at hr;cases hm:m id with
  |none=>simp[hm]at hr
  |some k=>simp[hm]at hr;subst hr;obtain⟨a,b⟩:=arr hm hid;exact .ept a h1 h2 (b.trans h3)
 |@eptOld id _ _ _ _ _ _ _ _ _ hid h1=>
  simp only[aJ]at hr;cases hm:m id with
  |none=>simp[hm]at hr
  |some k=>simp[hm]at hr;subst hr;obtain⟨a,b⟩:=arr hm hid;exact .eptOld a h1
 |@eptDead id _ _ _ _ hid=>
  simp only[aJ]at hr;cases hm:m id with
  |none=>simp[hm]at hr
  |some k=>simp[hm]at hr;subst hr;exact .eptDead (dead hm hid)
 |ref hb hlt hc hd=>simp only[aJ]at hr;cases hr;exact .ref (fun hm=>hb (hM _ hm)) hlt hc (fun j x hj=>hD _ _ (hd j x hj))
 |@fn f caps cs hlen _ ih=>
  simp only[aJ]at hr;cases hc:kg3 m caps with
  |none=>simp[hc]at hr
  |some c=>
   simp[hc]at hr;subst hr;obtain⟨e1,e2⟩:=mV hc;refine .fn (e1.trans hlen) (fun j l v hj hv=>?_);obtain⟨l0,a,b⟩:=e2 j l hj;exact ih j l0 v a hv b
 |nilf=>simp only[aJ]at hr;cases hr;exact .nilf
 |any=>simp only[aJ]at hr;cases hr;exact .any
 |@bsl id _ _ _ _ _ _ _ _ _ hid h1 h2 h3 h4 h5=>
  simp only[aJ]at hr;cases hm:m id with
  |none=>simp[hm]at hr
  |some k=>simp[hm]at hr;subst hr;obtain⟨c,a,b,e⟩:=box hm hid;exact .bsl a (by omega) (e.trans h2) h3 h4 h5
 |@bslDead id _ _ _ hid=>
  simp only[aJ]at hr;cases hm:m id with
  |none=>simp[hm]at hr
  |some k=>simp[hm]at hr;subst hr;exact .bslDead (dead hm hid)
 |@osl id _ _ _ _ _ _ _ _ _ _ _ _ hid h1 h2 h3 h4 h5=>
  simp only[aJ]at hr;cases hm:m id with
  |none=>simp[hm]at hr
  |some k=>simp[hm]at hr;subst hr;obtain⟨a,b⟩:=arr hm hid;exact .osl a h1 (b.trans h2) h3 h4 h5
 |@oslOld id _ _ _ _ _ _ _ _ _ hid h1=>
  simp only[aJ]at hr;cases hm:m id with
  |none=>simp[hm]at hr
  |some k=>simp[hm]at hr;subst hr;obtain⟨a,b⟩:=arr hm hid;exact .oslOld a h1
 |@oslDead id _ _ _ _ hid=>
  simp only[aJ]at hr;cases hm:m id with
  |none=>simp[hm]at hr
  |some k=>simp[hm]at hr;subst hr;exact .oslDead (dead hm hid)
 |nili=>simp only[aJ]at hr;cases hr;exact .nili
 |@fb f caps cs hlen _ ih=>
  simp only[aJ]at hr;cases hc:kg3 m caps with
  |none=>simp[hc]at hr
  |some c=>
   simp[hc]at hr;subst hr;obtain⟨e1,e2⟩:=mV hc;refine .fb (e1.trans hlen) (fun j l v hj hv=>?_);obtain⟨l0,a,b⟩:=e2 j l hj;exact ih j l0 v a hv b
def fG (μ:Pl) (h:aB) (ids lent:List Nat):Pl:=
 { at_:=fun k=>(ids[k]?).bind μ.at_,X:=fun b=>μ.X b∨∃id o,h[id]?=some o∧o.live=true∧μ id=some b∧(∀k:Nat,ids[k]?≠some id)∧id∉lent }
theorem zj8 {ids lent:List Nat} {k id:Nat} (hk:ids[k]?=some id):(fG μ h ids lent) k=μ id:=by
 show(ids[k]?).bind μ.at_=_;rw[hk];rfl
theorem rO {ids lent:List Nat} {hs:aB} (hh:bB h (idx ids) ids=some hs) {b:Nat} (hb:Lv (fG μ h ids lent) hs b):∃(k id:Nat) (o:aN),ids[k]?=some id∧h[id]?=some o∧o.live=true∧μ id=some b:=by
 obtain⟨k,o',h1,h2,h3⟩:=hb;obtain⟨e1,e2⟩:=oX hh;have hlt:k<ids.length:=by have:=(kd6.1 h1).1;omega
 have hk:ids[k]?=some ids[k]:=ke7 hlt;obtain⟨o,o1,a,b',c⟩:=e2 k _ hk;rw[h1]at c;cases c;refine⟨k,ids[k],o,hk,a,by rw[←(mW b').1];exact h2,?_⟩;rw[←zj8 (μ:=μ) (h:=h) (lent:=lent) hk];exact h3
theorem zQ {ids lent:List Nat} {hs:aB} (hh:bB h (idx ids) ids=some hs) (b:Nat) (hb:Mut (fG μ h ids lent) hs b):Mut μ h b:=by
 rcases hb with hb|hb|⟨id,o,h1,h2,h3,_⟩
 ·obtain⟨k,id,o,_,a,b,c⟩:=rO hh hb;exact .inl ⟨id,o,a,b,c⟩
 ·exact .inr hb
 ·exact .inl ⟨id,o,h1,h2,h3⟩
theorem zj9 {ids lent:List Nat} {hs:aB} (hh:bB h (idx ids) ids=some hs) {id k:Nat} {o:aN} (hk:idx ids id=some k) (ho:h[id]?=some o) :
  ∃o',hs[k]?=some o'∧bH (idx ids) o=some o'∧(fG μ h ids lent) k=μ id:=by
 have hk':=kS hk;obtain⟨o1,o',a,b,c⟩:=(oX hh).2 k id hk';rw[ho]at a;cases a;exact⟨o',c,b,zj8 hk'⟩
theorem zk0 {ids lent:List Nat} {hs:aB} (hh:bB h (idx ids) ids=some hs) {l l':L} {v:Value} (hl:bE w μ h l v) (hr:aJ (idx ids) l=some l'):bE w (fG μ h ids lent) hs l' v:=
 zL0 (fun _ _ hd=>hd.step (fun _ _ _=>rfl) (fun b hb=>.inl (zQ hh b hb))) (zQ hh) (fun _ _ _ hm ho=>zj9 hh hm ho) hl hr
theorem zL1 {ids lent:List Nat} {hs:aB} (H:aW w μ h) (hh:bB h (idx ids) ids=some hs) {l l':L} {v:Value} (hl:bE w μ h l v) (hr:bO h ids l=some l') (hsub:∀id∈jZ ids l,id∈lent):bE w (fG μ h ids lent) hs l' v:=by
 cases l with
 |own id ver len=>
  simp only[bO]at hr;cases hi:idx ids id with
  |some k=>simp only[hi]at hr;cases hr;exact zk0 hh hl (by simp[aJ,hi])
  |none=>
   simp only[hi]at hr;split at hr
   ·rename_i fz sz ver' xs hid;split at hr
    ·rename_i e;subst e;cases hr;refine .d (zJ7 H hid hl (zQ hh) (fun b hb=>?_));have hnotin:id∈lent:=hsub id (by simp[jZ,hi]);rintro(hlv|hX|⟨id2,o,h1,h2,h3,h4,h5⟩)
     ·obtain⟨k,id2,o,hk,a1,a2,a3⟩:=rO hh hlv;have:=H.apart _ _ _ _ _ a1 hid a2 rfl a3 hb;subst this;exact pW hi k hk
     ·exact H.off _ _ _ hid rfl hb hX
     ·have:=H.apart _ _ _ _ _ h1 hid h2 rfl h3 hb;subst this;exact h5 hnotin
    ·cases hr
   ·cases hr
 |_=>exact zk0 hh hl hr
theorem zL2:∀{ls ls':List L} {ids:List Nat},dG h ids ls=some ls'→ls'.length=ls.length∧∀(j:Nat) (l':L),ls'[j]?=some l'→∃l,ls[j]?=some l∧bO h ids l=some l'∧∀id∈jZ ids l,id∈kR ids ls
 |[],ls',ids,hh=>by cases hh;exact⟨rfl,by simp⟩
 |l::r,ls',ids,hh=>by
  unfold dG at hh;split at hh
  ·rename_i x xs hx hxs;cases hh;obtain⟨h1,h2⟩:=zL2 hxs;refine⟨by simp[h1],?_⟩;intro j l' hj;cases j with
   |zero=>simp at hj;subst hj;exact⟨l,rfl,hx,fun id hi=>by simp[kR,hi]⟩
   |succ j=>obtain⟨l0,a,b,c⟩:=h2 j l' (by simpa using hj);exact⟨l0,by simpa using a,b,fun id hi=>by simp[kR,c id hi]⟩
  ·cases hh
theorem zL3 {ids lent:List Nat} {hs:aB} (H:aW w μ h) (hh:bB h (idx ids) ids=some hs) {v v':V} {x:Value} (hx:bF w μ h v x) (hr:bM h ids v=some v') (hsub:∀id∈lD ids v,id∈lent):bF w (fG μ h ids lent) hs v' x:=by
 cases hx with
 |@one l _ ho hl=>
  simp only[bM]at hr;cases hl':bO h ids l with
  |none=>simp[hl']at hr
  |some l'=>simp[hl']at hr;subst hr;exact .one ho (zL1 H hh hl hl' hsub)
 |top=>simp only[bM,bO,aJ]at hr;cases hr;exact .top
 |@agg ls cs e1 e2 e3=>
  simp only[bM]at hr;cases hl':dG h ids ls with
  |none=>simp[hl']at hr
  |some ls'=>
   simp[hl']at hr;subst hr;obtain⟨a,b⟩:=zL2 hl';refine .agg (a.trans e1) (fun j l u hj hu=>?_) e3;obtain⟨l0,h0,h1,h2⟩:=b j l hj;exact zL1 H hh (e2 j l0 u h0 hu) h1 (fun id hi=>hsub id (h2 id hi))
 |tup=>simp only[bM]at hr;cases hr
theorem zk1:∀{vs vs':List V} {ids:List Nat},cL h ids vs=some vs'→vs'.length=vs.length∧∀(j:Nat) (v':V),vs'[j]?=some v'→∃v,vs[j]?=some v∧bM h ids v=some v'∧∀id∈lD ids v,id∈dK ids vs
 |[],vs',ids,hh=>by cases hh;exact⟨rfl,by simp⟩
 |v::r,vs',ids,hh=>by
  unfold cL at hh;split at hh
  ·rename_i x xs hx hxs;cases hh;obtain⟨h1,h2⟩:=zk1 hxs;refine⟨by simp[h1],?_⟩;intro j l' hj;cases j with
   |zero=>simp at hj;subst hj;exact⟨v,rfl,hx,fun id hi=>by simp[dK,hi]⟩
   |succ j=>obtain⟨l0,a,b,c⟩:=h2 j l' (by simpa using hj);exact⟨l0,by simpa using a,b,fun id hi=>by simp[dK,c id hi]⟩
  ·cases hh
theorem zL4 {ids lent:List Nat} {hs:aB} (hn:bK ids=true) (H:aW w μ h) (hh:bB h (idx ids) ids=some hs):aW w (fG μ h ids lent) hs:=by
 obtain⟨e1,e2⟩:=oX hh;have obj:∀{k:Nat} {o':aN},hs[k]?=some o'→∃(id:Nat) (o:aN),ids[k]?=some id∧h[id]?=some o∧bH (idx ids) o=some o'∧(fG μ h ids lent) k=μ id:=by
  intro k o' hk;have hlt:k<ids.length:=by have:=(kd6.1 hk).1;omega
  have hk':ids[k]?=some ids[k]:=ke7 hlt;obtain⟨o,o1,a,b,c⟩:=e2 k _ hk';rw[hk]at c;cases c;exact⟨ids[k],o,hk',a,b,zj8 hk'⟩
 refine⟨?_,?_,?_,?_,?_,fun i o b hi hb=>let ⟨id,p,_,hp,hr,hpl⟩:=obj hi;zK9 hr (H.ty id p b hp (hpl.symm.trans hb))⟩
 ·intro k ty cells hk;obtain⟨id,o,hi,ho,hr,hp⟩:=obj hk;cases o with
  |bx ty cells0=>
   simp only[bH]at hr;cases hc:kg3 (idx ids) cells0 with
   |none=>simp[hc]at hr
   |some c=>
    simp[hc]at hr;obtain⟨rfl,rfl⟩:=hr;obtain⟨b,cs,T,h1,h2,h3,h4,h5⟩:=H.box _ _ ho;obtain⟨r1,r2⟩:=mV hc;refine⟨b,cs,T,hp.trans h1,h2,by omega,h4,fun j l v hj hv=>?_⟩;obtain⟨l0,a,b'⟩:=r2 j l hj;exact zk0 hh (h5 j l0 v a hv) b'
  |ar=>cases hr
  |dead=>cases hr
 ·intro k ty fz sz ver xs hk;obtain⟨id,o,hi,ho,hr,hp⟩:=obj hk;cases o with
  |bx ty cells0=>
   simp only[bH]at hr;cases hc:kg3 (idx ids) cells0 with
   |none=>simp[hc]at hr
   |some c=>simp[hc]at hr
  |ar=>
   cases hr;rcases H.arr _ _ _ _ _ ho with⟨hn,hx⟩|⟨b,cs,T,h1,h2,h3,h4,h5,h6⟩
   ·exact .inl ⟨hp.trans hn,hx⟩
   ·exact .inr ⟨b,cs,T,hp.trans h1,h2,h3,h4,h5,fun i j e x hi hj=>let ⟨v,a,d⟩:=h6 i j e x hi hj;⟨v,a,d.step (fun _ _ _=>rfl) (fun b hb=>.inl (zQ hh b hb))⟩⟩
  |dead=>cases hr
 ·intro i j o o' b hi hj t1 t2 m1 m2;obtain⟨id,p,hid,hp,hr,hpl⟩:=obj hi;obtain⟨id',p',hid',hp',hr',hpl'⟩:=obj hj;have:=H.apart id id' p p' b hp hp' (by rw[←(mW hr).1];exact t1) (by rw[←(mW hr').2];exact t2) (by rw[←hpl];exact m1) (by rw[←hpl'];exact m2);subst this;exact zj7 hn hid hid'
 ·intro i o b hi t1 m1;obtain⟨id,p,hid,hp,hr,hpl⟩:=obj hi;have t1':p.there=true:=by rw[←(mW hr).2];exact t1
  have m1':μ id=some b:=by rw[←hpl];exact m1
  rintro(hX|⟨id2,o2,h1,h2,h3,h4,h5⟩)
  ·exact H.off _ _ _ hp t1' m1' hX
  ·have:=H.apart _ _ _ _ _ h1 hp h2 t1' h3 m1';subst this;exact h4 _ hid
 ·rintro b (hX|⟨id2,o2,h1,h2,h3,h4,h5⟩)
  ·exact H.old b hX
  ·cases o2 with
   |bx ty cells=>obtain⟨b',cs,T,a1,a2,_⟩:=H.box _ _ h1;rw[h3]at a1;cases a1;exact(kg7.1 a2).1
   |ar ty fz sz ver xs=>
    rcases H.arr _ _ _ _ _ h1 with⟨hn',_⟩|⟨b',cs,T,a1,a2,_⟩
    ·rw[h3]at hn';cases hn'
    ·rw[h3]at a1;cases a1;exact(kg7.1 a2).1
   |dead=>cases h2
theorem zL5:∀{ls ls':List V} {m:Nat→Option Nat},fY.renVs m ls=some ls'→ls'.length=ls.length∧∀(j:Nat) (l':V),ls'[j]?=some l'→∃l,ls[j]?=some l∧fY m l=some l'
 |[],ls',m,hh=>by simp[fY.renVs]at hh;subst hh;exact⟨rfl,by simp⟩
 |l::r,ls',m,hh=>by
  unfold fY.renVs at hh;split at hh
  ·rename_i x xs hx hxs;cases hh;obtain⟨h1,h2⟩:=zL5 hxs;refine⟨by simp[h1],?_⟩;intro j l' hj;cases j with
   |zero=>simp at hj;subst hj;exact⟨l,rfl,hx⟩
   |succ j=>obtain⟨l0,a,b⟩:=h2 j l' (by simpa using hj);exact⟨l0,by simpa using a,b⟩
  ·cases hh
theorem tD:∀{ls ls':aB} {m:Nat→Option Nat},iU m ls=some ls'→ls'.length=ls.length∧∀(j:Nat) (l:aN),ls[j]?=some l→∃l',ls'[j]?=some l'∧bH m l=some l'
 |[],ls',m,hh=>by simp[iU]at hh;subst hh;exact⟨rfl,by simp⟩
 |l::r,ls',m,hh=>by
  unfold iU at hh;split at hh
  ·rename_i x xs hx hxs;cases hh;obtain⟨h1,h2⟩:=tD hxs;refine⟨by simp[h1],?_⟩;intro j l' hj;cases j with
   |zero=>simp at hj;subst hj;exact⟨x,rfl,hx⟩
   |succ j=>obtain⟨l0,a,b⟩:=h2 j l' (by simpa using hj);exact⟨l0,by simpa using a,b⟩
  ·cases hh
theorem jg6 {w:World} {μ μ':Pl} {h h':aB} {m:Nat→Option Nat} (hL:∀l l' v,bE w μ h l v→aJ m l=some l'→bE w μ' h' l' v) {l l':V} {v:Value} (hl:bF w μ h l v) (hr:fY m l=some l'):bF w μ' h' l' v:=by
 induction hl generalizing l' with
 |@one l _ ho hl=>
  simp only[fY]at hr;cases hc:aJ m l with
  |none=>simp[hc]at hr
  |some x=>simp[hc]at hr;subst hr;exact .one ho (hL _ _ _ hl hc)
 |top=>simp only[fY,aJ]at hr;cases hr;exact .top
 |@agg ls cs e1 e2 e3=>
  simp only[fY]at hr;cases hc:kg3 m ls with
  |none=>simp[hc]at hr
  |some c=>
   simp[hc]at hr;subst hr;obtain⟨a,b⟩:=mV hc;refine .agg (a.trans e1) (fun j l v hj hv=>?_) e3;obtain⟨l0,h0,h1⟩:=b j l hj;exact hL _ _ _ (e2 j l0 v h0 hv) h1
 |@tup vs cs e1 e2 ih=>
  simp only[fY]at hr;cases hc:fY.renVs m vs with
  |none=>simp[hc]at hr
  |some c=>
   simp[hc]at hr;subst hr;obtain⟨a,b⟩:=zL5 hc;refine .tup (a.trans e1) (fun j l v hj hv=>?_);obtain⟨l0,h0,h1⟩:=b j l hj;exact ih j l0 v h0 hv h1
theorem vU:∀(ids:List Nat) (os h:aB),(eS h ids os).length=h.length
 |[],_,_=>by simp[eS]
 |_::_,[],_=>by simp[eS]
 |id::r,o::os,h=>by simp[eS,vU r os]
theorem zR:∀{ids:List Nat} {os h:aB},bK ids=true→os.length=ids.length→(∀(k id:Nat),ids[k]?=some id→id<h.length)→∀id,(eS h ids os)[id]?=match idx ids id with|some k=>os[k]?|none=>h[id]?
 |[],os,h,_,_,_,id=>by simp[eS,idx]
 |i::r,[],h,_,hl,_,id=>by cases hl
 |i::r,o::os,h,hn,hl,hlt,id=>by
  simp only[bK,kf8,kt3,kr7,decide_eq_false_iff_not]at hn;have ih:=zR (h:=h.set i o) hn.2 (by simpa using hl) (fun k id hk=>by simpa using hlt (k+1) id (by simpa using hk)) id;simp only[eS,ih,idx];by_cases e:i=id
  ·subst e;have hnone:idx r i=none:=by
    cases hi:idx r i with
    |none=>rfl
    |some k=>exact absurd (kd7 (kS hi)) hn.1
   have:=hlt 0 i rfl;simp[hnone,this]
  ·rw[if_neg e];cases hi:idx r id with
   |none=>simp[e]
   |some k=>simp
theorem zL6:∀(l:List Nat) (h:aB),(eC h l).length=h.length
 |[],_=>rfl
 |id::r,h=>by
  simp only[eC,zL6 r];unfold fzOne;split<;>simp
theorem zL7:∀(l:List Nat) {h:aB},aW w μ h→aW w μ (eC h l)∧Good w μ h w μ (eC h l)
 |[],_,H=>⟨H,kb7 _ _ _⟩
 |id::r,_,H=>by
  obtain⟨H2,g2⟩:=zL7 r (H.fzOne id);exact⟨H2,(kc3 _ _ _ _).trans g2⟩
theorem jg7 (o:aN):o.freeze.freeze=o.freeze:=by cases o<;>rfl
theorem zS:∀(l:List Nat) (h:aB) (id:Nat),(eC h l)[id]?=if id∈l then (h[id]?).map aN.freeze else h[id]?
 |[],h,id=>by simp[eC]
 |i::r,h,id=>by
  simp only[eC,zS r,vS,List.mem_cons];by_cases e:id=i<;>by_cases m:id∈r<;>simp[e,m]
  ·subst e;simp[m];cases h[id]?<;>simp[jg7]
  ·subst e;simp[m]
end Go.Vt
