import Derived.Test.YtdabfkmhkoppcaaGreatDoorVtWk
set_option linter.all false
open Array renaming getElem?_eq_some_iff→kt0
open Bool renaming and_eq_true→ks2,not_eq_true'→kF9
open List renaming contains_eq_mem→kE3,getElem?_eq_getElem→kr1,getElem?_eq_some_iff→kp9,mem_of_getElem?→kq0
open Go.Vt.aG renaming renLs→ks9
namespace Go.Vt
set_option linter.unusedSectionVars false
set_option linter.unusedVariables false
variable [cJ]
variable {P:Program} {w:World} {μ:Pl} {h:aB}
theorem lL:∀{ids:List Nat} {id k:Nat},idx ids id=some k→ids[k]?=some id
 |[],_,_,h=>by cases h
 |i::r,id,k,h=>by
  unfold idx at h;split at h
  ·rename_i e;cases h;simp[e]
  ·cases hr:idx r id with
   |none=>simp[hr]at h
   |some q=>simp[hr]at h;subst h;simpa using lL hr
theorem qZ:∀{ids:List Nat} {id:Nat},idx ids id=none→∀k:Nat,ids[k]?≠some id
 |[],_,_,k=>by simp
 |i::r,id,h,k=>by
  unfold idx at h;split at h
  ·cases h
  ·rename_i e;cases hr:idx r id with
   |none=>
    cases k with
    |zero=>simp;exact e
    |succ k=>simpa using qZ hr k
   |some q=>simp[hr]at h
theorem zo4:∀{ids:List Nat},bO ids=true→∀{i j x:Nat},ids[i]?=some x→ids[j]?=some x→i=j
 |[],_,i,j,x,h1,_=>by simp at h1
 |a::r,hn,i,j,x,h1,h2=>by
  simp only[bO,ks2,kF9,kE3,decide_eq_false_iff_not]at hn;cases i with
  |zero=>
   cases j with
   |zero=>rfl
   |succ j=>simp at h1 h2;subst h1;exact absurd (kq0 h2) hn.1
  |succ i=>
   cases j with
   |zero=>simp at h1 h2;subst h2;exact absurd (kq0 h1) hn.1
   |succ j=>simp at h1 h2;rw[zo4 hn.2 h1 h2]
theorem zc6 {ids:List Nat} (hn:bO ids=true) {id k:Nat} (hk:ids[k]?=some id):idx ids id=some k:=by
 cases h:idx ids id with
 |none=>exact absurd hk (qZ h k)
 |some q=>rw[zo4 hn (lL h) hk]
theorem pL:∀{l:List Nat} {m:Nat→Option Nat} {hs:aB},bA h m l=some hs→hs.length=l.length∧∀(k id:Nat),l[k]?=some id→∃o o',h[id]?=some o∧bD m o=some o'∧hs[k]?=some o'
 |[],_,hs,hh=>by cases hh;exact⟨rfl,by simp⟩
 |i::r,m,hs,hh=>by
  unfold bA at hh;split at hh
  ·rename_i o ho;split at hh
   ·rename_i x xs hx hxs;cases hh;obtain⟨h1,h2⟩:=pL hxs;refine⟨by simp[h1],?_⟩;intro k id hk;cases k with
    |zero=>simp at hk;subst hk;exact⟨o,x,ho,hx,rfl⟩
    |succ k=>obtain⟨o,o',a,b,c⟩:=h2 k id (by simpa using hk);exact⟨o,o',a,b,by simpa using c⟩
   ·cases hh
  ·cases hh
theorem nV:∀{ls ls':List L} {m:Nat→Option Nat},ks9 m ls=some ls'→ls'.length=ls.length∧∀(j:Nat) (l':L),ls'[j]?=some l'→∃l,ls[j]?=some l∧aG m l=some l'
 |[],ls',m,hh=>by simp[ks9]at hh;subst hh;exact⟨rfl,by simp⟩
 |l::r,ls',m,hh=>by
  unfold ks9 at hh;split at hh
  ·rename_i x xs hx hxs;cases hh;obtain⟨h1,h2⟩:=nV hxs;refine⟨by simp[h1],?_⟩;intro j l' hj;cases j with
   |zero=>simp at hj;subst hj;exact⟨l,rfl,hx⟩
   |succ j=>obtain⟨l0,a,b⟩:=h2 j l' (by simpa using hj);exact⟨l0,by simpa using a,b⟩
  ·cases hh
theorem mW {m:Nat→Option Nat} {o o':aI} (hr:bD m o=some o'):o'.live=o.live∧o'.there=o.there:=by
 cases o with
 |bx ty cells=>
  simp only[bD]at hr;cases hc:ks9 m cells with
  |none=>simp[hc]at hr
  |some c=>simp[hc]at hr;subst hr;exact⟨rfl,rfl⟩
 |ar=>cases hr;exact⟨rfl,rfl⟩
 |dead=>cases hr;exact⟨rfl,rfl⟩
theorem zR7 {w:World} {b:Nat} {m:Nat→Option Nat} {o o':aI} (hr:bD m o=some o') (h:o.tyOk w b):o'.tyOk w b:=by
 cases o with
 |bx ty cells=>
  simp only[bD]at hr;cases hc:ks9 m cells with
  |none=>simp[hc]at hr
  |some c=>
   simp[hc]at hr;subst hr;have:=(nV hc).1;cases ty with
   |none=>trivial
   |some T=>simp only[aI.tyOk]at h ⊢;rw[this];exact h
 |ar=>cases hr;exact h
 |dead=>cases hr;exact h
theorem zR8 {w:World} {μ μ':Pl} {h h':aB} {m:Nat→Option Nat} (hD:∀x v,cM w (Mut μ h) x v→cM w (Mut μ' h') x v) (hM:∀b,Mut μ' h' b→Mut μ h b)
  (hO:∀id k o,m id=some k→h[id]?=some o→∃o',h'[k]?=some o'∧bD m o=some o'∧μ' k=μ id) {l l':L} {v:Value} (hl:aY w μ h l v) (hr:aG m l=some l'):aY w μ' h' l' v:=by
 have arr:∀{id k:Nat} {ty:Option TypeId} {fz:Bool} {sz ver:Nat} {xs:List (List D)},m id=some k→h[id]?=some (.ar ty fz sz ver xs)→h'[k]?=some (.ar ty fz sz ver xs)∧μ' k=μ id:=by
  intro id k ty fz sz ver xs hm hid;obtain⟨o',h1,h2,h3⟩:=hO _ _ _ hm hid;cases h2;exact⟨h1,h3⟩
 have box:∀{id k:Nat} {ty:Option TypeId} {cells:List L},m id=some k→h[id]?=some (.bx ty cells)→∃cells',h'[k]?=some (.bx ty cells')∧cells'.length=cells.length∧μ' k=μ id:=by
  intro id k ty cells hm hid;obtain⟨o',h1,h2,h3⟩:=hO _ _ _ hm hid;simp only[bD]at h2;cases hc:ks9 m cells with
  |none=>simp[hc]at h2
  |some c=>simp[hc]at h2;subst h2;exact⟨c,h1,(nV hc).1,h3⟩
 have dead:∀{id k:Nat},m id=some k→h[id]?=some .dead→h'[k]?=some .dead:=by
  intro id k hm hid;obtain⟨o',h1,h2,h3⟩:=hO _ _ _ hm hid;cases h2;exact h1
 induction hl generalizing l' with
 |d hd=>simp only[aG]at hr;cases hr;exact .d (hD _ _ hd)
 |nils=>simp only[aG]at hr;cases hr;exact .nils
 |@own id _ _ _ _ _ _ _ _ _ _ _ hid h1 h2 h3 h4 h5=>
  simp only[aG]at hr;cases hm:m id with
  |none=>simp[hm]at hr
  |some k=>simp[hm]at hr;subst hr;obtain⟨a,b⟩:=arr hm hid;exact .own a h1 (b.trans h2) h3 h4 h5
 |@ownNil id _ _ _ _ _ hid h1=>
  simp only[aG]at hr;cases hm:m id with
  |none=>simp[hm]at hr
  |some k=>simp[hm]at hr;subst hr;obtain⟨a,b⟩:=arr hm hid;exact .ownNil a (b.trans h1)
 |@ownOld id _ _ _ _ _ _ _ _ hid h1=>
  simp only[aG]at hr;cases hm:m id with
  |none=>simp[hm]at hr
  |some k=>simp[hm]at hr;subst hr;obtain⟨a,b⟩:=arr hm hid;exact .ownOld a h1
 |@ownDead id _ _ _ hid=>
  simp only[aG]at hr;cases hm:m id with
  |none=>simp[hm]at hr
  |some k=>simp[hm]at hr;subst hr;exact .ownDead (dead hm hid)
 |@ptr id _ _ _ _ hid h1 h2=>
  simp only[aG]at hr;cases hm:m id with
  |none=>simp[hm]at hr
  |some k=>simp[hm]at hr;subst hr;obtain⟨c,a,b,e⟩:=box hm hid;exact .ptr a (by omega) (e.trans h2)
 |@ptrDead id _ _ hid=>
  simp only[aG]at hr;cases hm:m id with
  |none=>simp[hm]at hr
  |some k=>simp[hm]at hr;subst hr;exact .ptrDead (dead hm hid)
 |@ept id _ _ _ _ _ _ _ _ hid h1 h2 h3=>
  simp only[aG]at hr;cases hm:m id with
  |none=>simp[hm]at hr
  |some k=>simp[hm]at hr;subst hr;obtain⟨a,b⟩:=arr hm hid;exact .ept a h1 h2 (b.trans h3)
 |@eptOld id _ _ _ _ _ _ _ _ _ hid h1=>
  simp only[aG]at hr;cases hm:m id with
  |none=>simp[hm]at hr
  |some k=>simp[hm]at hr;subst hr;obtain⟨a,b⟩:=arr hm hid;exact .eptOld a h1
 |@eptDead id _ _ _ _ hid=>
  simp only[aG]at hr;cases hm:m id with
  |none=>simp[hm]at hr
  |some k=>simp[hm]at hr;subst hr;exact .eptDead (dead hm hid)
 |ref hb hlt hc hd=>simp only[aG]at hr;cases hr;exact .ref (fun hm=>hb (hM _ hm)) hlt hc (fun j x hj=>hD _ _ (hd j x hj))
 |@fn f caps cs hlen _ ih=>
  simp only[aG]at hr;cases hc:ks9 m caps with
  |none=>simp[hc]at hr
  |some c=>
   simp[hc]at hr;subst hr;obtain⟨e1,e2⟩:=nV hc;refine .fn (e1.trans hlen) (fun j l v hj hv=>?_);obtain⟨l0,a,b⟩:=e2 j l hj;exact ih j l0 v a hv b
 |nilf=>simp only[aG]at hr;cases hr;exact .nilf
 |any=>simp only[aG]at hr;cases hr;exact .any
 |@bsl id _ _ _ _ _ _ _ _ _ hid h1 h2 h3 h4 h5=>
  simp only[aG]at hr;cases hm:m id with
  |none=>simp[hm]at hr
  |some k=>simp[hm]at hr;subst hr;obtain⟨c,a,b,e⟩:=box hm hid;exact .bsl a (by omega) (e.trans h2) h3 h4 h5
 |@bslDead id _ _ _ hid=>
  simp only[aG]at hr;cases hm:m id with
  |none=>simp[hm]at hr
  |some k=>simp[hm]at hr;subst hr;exact .bslDead (dead hm hid)
 |@osl id _ _ _ _ _ _ _ _ _ _ _ _ hid h1 h2 h3 h4 h5=>
  simp only[aG]at hr;cases hm:m id with
  |none=>simp[hm]at hr
  |some k=>simp[hm]at hr;subst hr;obtain⟨a,b⟩:=arr hm hid;exact .osl a h1 (b.trans h2) h3 h4 h5
 |@oslOld id _ _ _ _ _ _ _ _ _ hid h1=>
  simp only[aG]at hr;cases hm:m id with
  |none=>simp[hm]at hr
  |some k=>simp[hm]at hr;subst hr;obtain⟨a,b⟩:=arr hm hid;exact .oslOld a h1
 |@oslDead id _ _ _ _ hid=>
  simp only[aG]at hr;cases hm:m id with
  |none=>simp[hm]at hr
  |some k=>simp[hm]at hr;subst hr;exact .oslDead (dead hm hid)
 |nili=>simp only[aG]at hr;cases hr;exact .nili
 |@fb f caps cs hlen _ ih=>
  simp only[aG]at hr;cases hc:ks9 m caps with
  |none=>simp[hc]at hr
  |some c=>
   simp[hc]at hr;subst hr;obtain⟨e1,e2⟩:=nV hc;refine .fb (e1.trans hlen) (fun j l v hj hv=>?_);obtain⟨l0,a,b⟩:=e2 j l hj;exact ih j l0 v a hv b
def gE (μ:Pl) (h:aB) (ids lent:List Nat):Pl:=
 { at_:=fun k=>(ids[k]?).bind μ.at_,X:=fun b=>μ.X b∨∃id o,h[id]?=some o∧o.live=true∧μ id=some b∧(∀k:Nat,ids[k]?≠some id)∧id∉lent }
theorem zo5 {ids lent:List Nat} {k id:Nat} (hk:ids[k]?=some id):(gE μ h ids lent) k=μ id:=by
 show(ids[k]?).bind μ.at_=_;rw[hk];rfl
theorem sU {ids lent:List Nat} {hs:aB} (hh:bA h (idx ids) ids=some hs) {b:Nat} (hb:Lv (gE μ h ids lent) hs b):∃(k id:Nat) (o:aI),ids[k]?=some id∧h[id]?=some o∧o.live=true∧μ id=some b:=by
 obtain⟨k,o',h1,h2,h3⟩:=hb;obtain⟨e1,e2⟩:=pL hh;have hlt:k<ids.length:=by have:=(kp9.1 h1).1;omega
 have hk:ids[k]?=some ids[k]:=kr1 hlt;obtain⟨o,o1,a,b',c⟩:=e2 k _ hk;rw[h1]at c;cases c;refine⟨k,ids[k],o,hk,a,by rw[←(mW b').1];exact h2,?_⟩;rw[←zo5 (μ:=μ) (h:=h) (lent:=lent) hk];exact h3
theorem zc7 {ids lent:List Nat} {hs:aB} (hh:bA h (idx ids) ids=some hs) (b:Nat) (hb:Mut (gE μ h ids lent) hs b):Mut μ h b:=by
 rcases hb with hb|hb|⟨id,o,h1,h2,h3,_⟩
 ·obtain⟨k,id,o,_,a,b,c⟩:=sU hh hb;exact .inl ⟨id,o,a,b,c⟩
 ·exact .inr hb
 ·exact .inl ⟨id,o,h1,h2,h3⟩
theorem zo6 {ids lent:List Nat} {hs:aB} (hh:bA h (idx ids) ids=some hs) {id k:Nat} {o:aI} (hk:idx ids id=some k) (ho:h[id]?=some o) :
  ∃o',hs[k]?=some o'∧bD (idx ids) o=some o'∧(gE μ h ids lent) k=μ id:=by
 have hk':=lL hk;obtain⟨o1,o',a,b,c⟩:=(pL hh).2 k id hk';rw[ho]at a;cases a;exact⟨o',c,b,zo5 hk'⟩
theorem zo7 {ids lent:List Nat} {hs:aB} (hh:bA h (idx ids) ids=some hs) {l l':L} {v:Value} (hl:aY w μ h l v) (hr:aG (idx ids) l=some l'):aY w (gE μ h ids lent) hs l' v:=
 zR8 (fun _ _ hd=>hd.step (fun _ _ _=>rfl) (fun b hb=>.inl (zc7 hh b hb))) (zc7 hh) (fun _ _ _ hm ho=>zo6 hh hm ho) hl hr
theorem zR9 {ids lent:List Nat} {hs:aB} (H:aR w μ h) (hh:bA h (idx ids) ids=some hs) {l l':L} {v:Value} (hl:aY w μ h l v) (hr:bT h ids l=some l') (hsub:∀id∈kU ids l,id∈lent):aY w (gE μ h ids lent) hs l' v:=by
 cases l with
 |own id ver len=>
  simp only[bT]at hr;cases hi:idx ids id with
  |some k=>simp only[hi]at hr;cases hr;exact zo7 hh hl (by simp[aG,hi])
  |none=>
   simp only[hi]at hr;split at hr
   ·rename_i fz sz ver' xs hid;split at hr
    ·rename_i e;subst e;cases hr;refine .d (zQ7 H hid hl (zc7 hh) (fun b hb=>?_));have hnotin:id∈lent:=hsub id (by simp[kU,hi]);rintro(hlv|hX|⟨id2,o,h1,h2,h3,h4,h5⟩)
     ·obtain⟨k,id2,o,hk,a1,a2,a3⟩:=sU hh hlv;have:=H.apart _ _ _ _ _ a1 hid a2 rfl a3 hb;subst this;exact qZ hi k hk
     ·exact H.off _ _ _ hid rfl hb hX
     ·have:=H.apart _ _ _ _ _ h1 hid h2 rfl h3 hb;subst this;exact h5 hnotin
    ·cases hr
   ·cases hr
 |_=>exact zo7 hh hl hr
theorem zS0:∀{ls ls':List L} {ids:List Nat},cW h ids ls=some ls'→ls'.length=ls.length∧∀(j:Nat) (l':L),ls'[j]?=some l'→∃l,ls[j]?=some l∧bT h ids l=some l'∧∀id∈kU ids l,id∈lK ids ls
 |[],ls',ids,hh=>by cases hh;exact⟨rfl,by simp⟩
 |l::r,ls',ids,hh=>by
  unfold cW at hh;split at hh
  ·rename_i x xs hx hxs;cases hh;obtain⟨h1,h2⟩:=zS0 hxs;refine⟨by simp[h1],?_⟩;intro j l' hj;cases j with
   |zero=>simp at hj;subst hj;exact⟨l,rfl,hx,fun id hi=>by simp[lK,hi]⟩
   |succ j=>obtain⟨l0,a,b,c⟩:=h2 j l' (by simpa using hj);exact⟨l0,by simpa using a,b,fun id hi=>by simp[lK,c id hi]⟩
  ·cases hh
theorem zS1 {ids lent:List Nat} {hs:aB} (H:aR w μ h) (hh:bA h (idx ids) ids=some hs) {v v':V} {x:Value} (hx:aZ w μ h v x) (hr:bP h ids v=some v') (hsub:∀id∈mD ids v,id∈lent):aZ w (gE μ h ids lent) hs v' x:=by
 cases hx with
 |@one l _ ho hl=>
  simp only[bP]at hr;cases hl':bT h ids l with
  |none=>simp[hl']at hr
  |some l'=>simp[hl']at hr;subst hr;exact .one ho (zR9 H hh hl hl' hsub)
 |top=>simp only[bP,bT,aG]at hr;cases hr;exact .top
 |@agg ls cs e1 e2 e3=>
  simp only[bP]at hr;cases hl':cW h ids ls with
  |none=>simp[hl']at hr
  |some ls'=>
   simp[hl']at hr;subst hr;obtain⟨a,b⟩:=zS0 hl';refine .agg (a.trans e1) (fun j l u hj hu=>?_) e3;obtain⟨l0,h0,h1,h2⟩:=b j l hj;exact zR9 H hh (e2 j l0 u h0 hu) h1 (fun id hi=>hsub id (h2 id hi))
 |tup=>simp only[bP]at hr;cases hr
theorem zo8:∀{vs vs':List V} {ids:List Nat},cE h ids vs=some vs'→vs'.length=vs.length∧∀(j:Nat) (v':V),vs'[j]?=some v'→∃v,vs[j]?=some v∧bP h ids v=some v'∧∀id∈mD ids v,id∈dM ids vs
 |[],vs',ids,hh=>by cases hh;exact⟨rfl,by simp⟩
 |v::r,vs',ids,hh=>by
  unfold cE at hh;split at hh
  ·rename_i x xs hx hxs;cases hh;obtain⟨h1,h2⟩:=zo8 hxs;refine⟨by simp[h1],?_⟩;intro j l' hj;cases j with
   |zero=>simp at hj;subst hj;exact⟨v,rfl,hx,fun id hi=>by simp[dM,hi]⟩
   |succ j=>obtain⟨l0,a,b,c⟩:=h2 j l' (by simpa using hj);exact⟨l0,by simpa using a,b,fun id hi=>by simp[dM,c id hi]⟩
  ·cases hh
theorem zS2 {ids lent:List Nat} {hs:aB} (hn:bO ids=true) (H:aR w μ h) (hh:bA h (idx ids) ids=some hs):aR w (gE μ h ids lent) hs:=by
 obtain⟨e1,e2⟩:=pL hh;have obj:∀{k:Nat} {o':aI},hs[k]?=some o'→∃(id:Nat) (o:aI),ids[k]?=some id∧h[id]?=some o∧bD (idx ids) o=some o'∧(gE μ h ids lent) k=μ id:=by
  intro k o' hk;have hlt:k<ids.length:=by have:=(kp9.1 hk).1;omega
  have hk':ids[k]?=some ids[k]:=kr1 hlt;obtain⟨o,o1,a,b,c⟩:=e2 k _ hk';rw[hk]at c;cases c;exact⟨ids[k],o,hk',a,b,zo5 hk'⟩
 refine⟨?_,?_,?_,?_,?_,fun i o b hi hb=>let ⟨id,p,_,hp,hr,hpl⟩:=obj hi;zR7 hr (H.ty id p b hp (hpl.symm.trans hb)),fun b o e=>⟨(H.tab b o e).1,fun⟨k,o',h1,h2,h3⟩=>by
  obtain⟨id,p,_,hp,hr,hpl⟩:=obj h1;exact(H.tab b o e).2 ⟨id,p,hp,by rw[←(mW hr).1];exact h2,hpl.symm.trans h3⟩⟩⟩
 ·intro k ty cells hk;obtain⟨id,o,hi,ho,hr,hp⟩:=obj hk;cases o with
  |bx ty cells0=>
   simp only[bD]at hr;cases hc:ks9 (idx ids) cells0 with
   |none=>simp[hc]at hr
   |some c=>
    simp[hc]at hr;obtain⟨rfl,rfl⟩:=hr;obtain⟨b,cs,T,h1,h2,h3,h4,h5⟩:=H.box _ _ ho;obtain⟨r1,r2⟩:=nV hc;refine⟨b,cs,T,hp.trans h1,h2,by omega,h4,fun j l v hj hv=>?_⟩;obtain⟨l0,a,b'⟩:=r2 j l hj;exact zo7 hh (h5 j l0 v a hv) b'
  |ar=>cases hr
  |dead=>cases hr
 ·intro k ty fz sz ver xs hk;obtain⟨id,o,hi,ho,hr,hp⟩:=obj hk;cases o with
  |bx ty cells0=>
   simp only[bD]at hr;cases hc:ks9 (idx ids) cells0 with
   |none=>simp[hc]at hr
   |some c=>simp[hc]at hr
  |ar=>
   cases hr;rcases H.arr _ _ _ _ _ ho with⟨hn,hx⟩|⟨b,cs,T,h1,h2,h3,h4,h5,h6⟩
   ·exact .inl ⟨hp.trans hn,hx⟩
   ·exact .inr ⟨b,cs,T,hp.trans h1,h2,h3,h4,h5,fun i j e x hi hj=>let ⟨v,a,d⟩:=h6 i j e x hi hj;⟨v,a,d.step (fun _ _ _=>rfl) (fun b hb=>.inl (zc7 hh b hb))⟩⟩
  |dead=>cases hr
 ·intro i j o o' b hi hj t1 t2 m1 m2;obtain⟨id,p,hid,hp,hr,hpl⟩:=obj hi;obtain⟨id',p',hid',hp',hr',hpl'⟩:=obj hj;have:=H.apart id id' p p' b hp hp' (by rw[←(mW hr).1];exact t1) (by rw[←(mW hr').2];exact t2) (by rw[←hpl];exact m1) (by rw[←hpl'];exact m2);subst this;exact zo4 hn hid hid'
 ·intro i o b hi t1 m1;obtain⟨id,p,hid,hp,hr,hpl⟩:=obj hi;have t1':p.there=true:=by rw[←(mW hr).2];exact t1
  have m1':μ id=some b:=by rw[←hpl];exact m1
  rintro(hX|⟨id2,o2,h1,h2,h3,h4,h5⟩)
  ·exact H.off _ _ _ hp t1' m1' hX
  ·have:=H.apart _ _ _ _ _ h1 hp h2 t1' h3 m1';subst this;exact h4 _ hid
 ·rintro b (hX|⟨id2,o2,h1,h2,h3,h4,h5⟩)
  ·exact H.old b hX
  ·cases o2 with
   |bx ty cells=>obtain⟨b',cs,T,a1,a2,_⟩:=H.box _ _ h1;rw[h3]at a1;cases a1;exact(kt0.1 a2).1
   |ar ty fz sz ver xs=>
    rcases H.arr _ _ _ _ _ h1 with⟨hn',_⟩|⟨b',cs,T,a1,a2,_⟩
    ·rw[h3]at hn';cases hn'
    ·rw[h3]at a1;cases a1;exact(kt0.1 a2).1
   |dead=>cases h2
theorem zS3:∀{ls ls':List V} {m:Nat→Option Nat},hJ.renVs m ls=some ls'→ls'.length=ls.length∧∀(j:Nat) (l':V),ls'[j]?=some l'→∃l,ls[j]?=some l∧hJ m l=some l'
 |[],ls',m,hh=>by simp[hJ.renVs]at hh;subst hh;exact⟨rfl,by simp⟩
 |l::r,ls',m,hh=>by
  unfold hJ.renVs at hh;split at hh
  ·rename_i x xs hx hxs;cases hh;obtain⟨h1,h2⟩:=zS3 hxs;refine⟨by simp[h1],?_⟩;intro j l' hj;cases j with
   |zero=>simp at hj;subst hj;exact⟨l,rfl,hx⟩
   |succ j=>obtain⟨l0,a,b⟩:=h2 j l' (by simpa using hj);exact⟨l0,by simpa using a,b⟩
  ·cases hh
theorem uT:∀{ls ls':aB} {m:Nat→Option Nat},jN m ls=some ls'→ls'.length=ls.length∧∀(j:Nat) (l:aI),ls[j]?=some l→∃l',ls'[j]?=some l'∧bD m l=some l'
 |[],ls',m,hh=>by simp[jN]at hh;subst hh;exact⟨rfl,by simp⟩
 |l::r,ls',m,hh=>by
  unfold jN at hh;split at hh
  ·rename_i x xs hx hxs;cases hh;obtain⟨h1,h2⟩:=uT hxs;refine⟨by simp[h1],?_⟩;intro j l' hj;cases j with
   |zero=>simp at hj;subst hj;exact⟨x,rfl,hx⟩
   |succ j=>obtain⟨l0,a,b⟩:=h2 j l' (by simpa using hj);exact⟨l0,by simpa using a,b⟩
  ·cases hh
theorem jo6 {w:World} {μ μ':Pl} {h h':aB} {m:Nat→Option Nat} (hL:∀l l' v,aY w μ h l v→aG m l=some l'→aY w μ' h' l' v) {l l':V} {v:Value} (hl:aZ w μ h l v) (hr:hJ m l=some l'):aZ w μ' h' l' v:=by
 induction hl generalizing l' with
 |@one l _ ho hl=>
  simp only[hJ]at hr;cases hc:aG m l with
  |none=>simp[hc]at hr
  |some x=>simp[hc]at hr;subst hr;exact .one ho (hL _ _ _ hl hc)
 |top=>simp only[hJ,aG]at hr;cases hr;exact .top
 |@agg ls cs e1 e2 e3=>
  simp only[hJ]at hr;cases hc:ks9 m ls with
  |none=>simp[hc]at hr
  |some c=>
   simp[hc]at hr;subst hr;obtain⟨a,b⟩:=nV hc;refine .agg (a.trans e1) (fun j l v hj hv=>?_) e3;obtain⟨l0,h0,h1⟩:=b j l hj;exact hL _ _ _ (e2 j l0 v h0 hv) h1
 |@tup vs cs e1 e2 ih=>
  simp only[hJ]at hr;cases hc:hJ.renVs m vs with
  |none=>simp[hc]at hr
  |some c=>
   simp[hc]at hr;subst hr;obtain⟨a,b⟩:=zS3 hc;refine .tup (a.trans e1) (fun j l v hj hv=>?_);obtain⟨l0,h0,h1⟩:=b j l hj;exact ih j l0 v h0 hv h1
theorem xH:∀(ids:List Nat) (os h:aB),(eV h ids os).length=h.length
 |[],_,_=>by simp[eV]
 |_::_,[],_=>by simp[eV]
 |id::r,o::os,h=>by simp[eV,xH r os]
theorem zc8:∀{ids:List Nat} {os h:aB},bO ids=true→os.length=ids.length→(∀(k id:Nat),ids[k]?=some id→id<h.length)→∀id,(eV h ids os)[id]?=match idx ids id with|some k=>os[k]?|none=>h[id]?
 |[],os,h,_,_,_,id=>by simp[eV,idx]
 |i::r,[],h,_,hl,_,id=>by cases hl
 |i::r,o::os,h,hn,hl,hlt,id=>by
  simp only[bO,ks2,kF9,kE3,decide_eq_false_iff_not]at hn;have ih:=zc8 (h:=h.set i o) hn.2 (by simpa using hl) (fun k id hk=>by simpa using hlt (k+1) id (by simpa using hk)) id;simp only[eV,ih,idx];by_cases e:i=id
  ·subst e;have hnone:idx r i=none:=by
    cases hi:idx r i with
    |none=>rfl
    |some k=>exact absurd (kq0 (lL hi)) hn.1
   have:=hlt 0 i rfl;simp[hnone,this]
  ·rw[if_neg e];cases hi:idx r id with
   |none=>simp[e]
   |some k=>simp
theorem zS4:∀(l:List Nat) (h:aB),(eB h l).length=h.length
 |[],_=>rfl
 |id::r,h=>by
  simp only[eB,zS4 r];unfold fzOne;split<;>simp
theorem zS5:∀(l:List Nat) {h:aB},aR w μ h→aR w μ (eB h l)∧Good w μ h w μ (eB h l)
 |[],_,H=>⟨H,kn9 _ _ _⟩
 |id::r,_,H=>by
  obtain⟨H2,g2⟩:=zS5 r (H.fzOne id);exact⟨H2,(ko5 _ _ _ _).trans g2⟩
theorem jo7 (o:aI):o.freeze.freeze=o.freeze:=by cases o<;>rfl
theorem zc9:∀(l:List Nat) (h:aB) (id:Nat),(eB h l)[id]?=if id∈l then (h[id]?).map aI.freeze else h[id]?
 |[],h,id=>by simp[eB]
 |i::r,h,id=>by
  simp only[eB,zc9 r,xG,List.mem_cons];by_cases e:id=i<;>by_cases m:id∈r<;>simp[e,m]
  ·subst e;simp[m];cases h[id]?<;>simp[jo7]
  ·subst e;simp[m]
end Go.Vt
