import Derived.Test.YtdabfkmhkoppcaaGreatDoorVtBase
import Derived.Test.YtdabfkmhkoppcaaGreatDoorVtVop
set_option linter.all false
namespace Go.Vt
set_option linter.unusedSectionVars false
set_option linter.unusedVariables false
variable [cJ]
def WkL (l l':L):Prop:=l=l'∨(l = .nils∧l' = .d (.sl []))∨l' = .any
def iV:List L→List L→Prop
 |[],[]=>True
 |l::r,l'::r'=>WkL l l'∧iV r r'
 |_,_=>False
def WkV:V→V→Prop
 |.one l,.one l'=>WkL l l'
 |.agg ls,.agg ls'=>iV ls ls'
 |.tup vs,.tup vs'=>all vs vs'
 |_,.one .any=>True
 |_,_=>False
 where
 all:List V→List V→Prop
  |[],[]=>True
  |v::r,v'::r'=>WkV v v'∧all r r'
  |_,_=>False
def WkO:aI→aI→Prop
 |.bx ty cs,.bx ty' cs'=>(ty'=ty∨ty'=none)∧iV cs cs'
 |o,o'=>o=o'
def WkH:aB→aB→Prop
 |[],[]=>True
 |o::r,o'::r'=>WkO o o'∧WkH r r'
 |_,_=>False
theorem WkL.refl (l:L):WkL l l:=.inl rfl
theorem kn7:∀ls:List L,iV ls ls
 |[]=>trivial
 |_::r=>⟨.inl rfl,kn7 r⟩
mutual
theorem ko0:∀v:V,WkV v v
 |.one l=>by unfold WkV;exact .inl rfl
 |.agg ls=>by unfold WkV;exact kn7 ls
 |.tup vs=>by unfold WkV;exact ko6 vs
theorem ko6:∀vs:List V,WkV.all vs vs
 |[]=>trivial
 |v::r=>⟨ko0 v,ko6 r⟩
end
theorem kn5 (o:aI):WkO o o:=by cases o<;>first|exact⟨.inl rfl,kn7 _⟩|rfl
theorem ko1:∀h:aB,WkH h h
 |[]=>trivial
 |o::r=>⟨kn5 o,ko1 r⟩
variable {w:World} {μ:Pl} {h h1:aB}
theorem WkL.rep {l l':L} {v:Value} (hw:WkL l l') (hl:aY w μ h l v):aY w μ h l' v:=by
 rcases hw with rfl|⟨rfl,rfl⟩|rfl
 ·exact hl
 ·cases hl;exact .d (.sl0 _ _)
 ·exact .any
theorem iV.get:∀{ls ls':List L},iV ls ls'→ls'.length=ls.length∧∀(j:Nat) (l':L),ls'[j]?=some l'→∃l,ls[j]?=some l∧WkL l l'
 |[],[],_=>⟨rfl,by simp⟩
 |l::r,l'::r',hw=>by
  obtain⟨h1,h2⟩:=iV.get hw.2;refine⟨by simp[h1],fun j x hj=>?_⟩;cases j with
  |zero=>simp at hj;subst hj;exact⟨l,rfl,hw.1⟩
  |succ j=>obtain⟨y,a,b⟩:=h2 j x (by simpa using hj);exact⟨y,by simpa using a,b⟩
 |[],_::_,hw=>hw.elim
 |_::_,[],hw=>hw.elim
theorem WkVs.get:∀{ls ls':List V},WkV.all ls ls'→ls'.length=ls.length∧∀(j:Nat) (l':V),ls'[j]?=some l'→∃l,ls[j]?=some l∧WkV l l'
 |[],[],_=>⟨rfl,by simp⟩
 |l::r,l'::r',hw=>by
  obtain⟨h1,h2⟩:=WkVs.get hw.2;refine⟨by simp[h1],fun j x hj=>?_⟩;cases j with
  |zero=>simp at hj;subst hj;exact⟨l,rfl,hw.1⟩
  |succ j=>obtain⟨y,a,b⟩:=h2 j x (by simpa using hj);exact⟨y,by simpa using a,b⟩
 |[],_::_,hw=>hw.elim
 |_::_,[],hw=>hw.elim
theorem WkV.rep {v v':V} {x:Value} (hl:aZ w μ h v x):WkV v v'→aZ w μ h v' x:=by
 induction hl generalizing v' with
 |@one l x ho hl=>
  intro hw;cases v' with
  |one l'=>unfold WkV at hw;exact .one ho (hw.rep hl)
  |_=>simp[WkV]at hw
 |top=>
  intro hw;cases v' with
  |one l'=>
   unfold WkV at hw;rcases hw with rfl|⟨e,_⟩|rfl
   ·exact .top
   ·cases e
   ·exact .top
  |_=>simp[WkV]at hw
 |@agg ls cs e1 e2 e3=>
  intro hw;cases v' with
  |one l'=>
   cases l'<;>simp[WkV]at hw
   exact .top
  |agg ls'=>
   unfold WkV at hw;obtain⟨a1,a2⟩:=hw.get;refine .agg (a1.trans e1) (fun j l v hj hv=>?_) e3;obtain⟨l0,b1,b2⟩:=a2 j l hj;exact b2.rep (e2 j l0 v b1 hv)
  |tup _=>simp[WkV]at hw
 |@tup vs cs e1 _ ih=>
  intro hw;cases v' with
  |one l'=>
   cases l'<;>simp[WkV]at hw
   exact .top
  |tup vs'=>
   unfold WkV at hw;obtain⟨a1,a2⟩:=WkVs.get hw;refine .tup (a1.trans e1) (fun j l v hj hv=>?_);obtain⟨l0,b1,b2⟩:=a2 j l hj;exact ih j l0 v b1 hv b2
  |agg _=>simp[WkV]at hw
theorem WkH.get:∀{h h1:aB},WkH h h1→h1.length=h.length∧(∀(j:Nat) (o':aI),h1[j]?=some o'→∃o,h[j]?=some o∧WkO o o')∧∀(j:Nat) (o:aI),h[j]?=some o→∃o',h1[j]?=some o'∧WkO o o'
 |[],[],_=>⟨rfl,by simp,by simp⟩
 |l::r,l'::r',hw=>by
  obtain⟨h1,h2,h3⟩:=WkH.get hw.2;refine⟨by simp[h1],fun j x hj=>?_,fun j x hj=>?_⟩
  ·cases j with
   |zero=>simp at hj;subst hj;exact⟨l,rfl,hw.1⟩
   |succ j=>obtain⟨y,a,b⟩:=h2 j x (by simpa using hj);exact⟨y,by simpa using a,b⟩
  ·cases j with
   |zero=>simp at hj;subst hj;exact⟨l',rfl,hw.1⟩
   |succ j=>obtain⟨y,a,b⟩:=h3 j x (by simpa using hj);exact⟨y,by simpa using a,b⟩
 |[],_::_,hw=>hw.elim
 |_::_,[],hw=>hw.elim
theorem WkO.live {o o':aI} (hw:WkO o o'):o'.live=o.live∧o'.there=o.there:=by
 cases o<;>cases o'<;>simp_all [WkO,aI.live,aI.there]
theorem WkH.lv (hw:WkH h h1) (b:Nat):Lv μ h1 b↔Lv μ h b:=by
 obtain⟨_,h2,h3⟩:=hw.get;constructor
 ·rintro⟨id,o',a1,a2,a3⟩;obtain⟨o,b1,b2⟩:=h2 id o' a1;exact⟨id,o,b1,by rw[←b2.live.1];exact a2,a3⟩
 ·rintro⟨id,o,a1,a2,a3⟩;obtain⟨o',b1,b2⟩:=h3 id o a1;exact⟨id,o',b1,by rw[b2.live.1];exact a2,a3⟩
theorem WkH.good (hw:WkH h h1):Good w μ h w μ h1:=by
 obtain⟨h0,h2,h3⟩:=hw.get;refine⟨rfl,rfl,rfl,Nat.le_refl _,rfl,fun _ _ _=>rfl,fun _ cs _ _ hb=>⟨cs,_,hb,rfl⟩,fun b hb=>.inl ((hw.lv b).1 hb),by omega,?_,?_,?_⟩
 ·intro id ty cells hid;obtain⟨o',a1,a2⟩:=h3 id _ hid;cases o' with
  |bx ty cs'=>exact .inr ⟨cs',ty,a1,(iV.get a2.2).1,rfl⟩
  |_=>simp[WkO]at a2
 ·intro id ty fz sz ver xs hid;obtain⟨o',a1,a2⟩:=h3 id _ hid;cases o' with
  |ar=>simp[WkO]at a2;obtain⟨rfl,rfl,rfl,rfl,rfl⟩:=a2;exact .inr ⟨_,_,_,_,_,a1,.inl ⟨rfl,rfl,rfl,rfl⟩⟩
  |_=>simp[WkO]at a2
 ·intro id hid;obtain⟨o',a1,a2⟩:=h3 id _ hid;cases o' with
  |dead=>exact a1
  |_=>simp[WkO]at a2
theorem WkH.hrep (hw:WkH h h1) (H:aR w μ h):aR w μ h1:=by
 have g:Good w μ h w μ h1:=hw.good;obtain⟨h0,h2,h3⟩:=hw.get;refine⟨?_,?_,?_,?_,H.old,fun i o b hi hb=>by
  obtain⟨p,p1,p2⟩:=h2 i o hi;have h0:=H.ty i p b p1 hb;cases p<;>cases o<;>simp[WkO]at p2
  ·rename_i t cs t' cs';obtain⟨e|e,p2⟩:=p2
   ·subst e;have:=(iV.get p2).1;cases t' with
    |none=>trivial
    |some T=>simp only[aI.tyOk]at h0 ⊢;rw[this];exact h0
   ·subst e;trivial
  ·obtain⟨rfl,rfl,rfl,rfl,rfl⟩:=p2;exact h0
  ·exact h0,H.tabs g⟩
 ·intro id ty cells hid;obtain⟨o,a1,a2⟩:=h2 id _ hid;cases o with
  |bx ty cs=>
   obtain⟨b,vs,T,b1,b2,b3,b4,b5⟩:=H.box id cs a1;obtain⟨c1,c2⟩:=iV.get a2.2;refine⟨b,vs,T,b1,b2,by omega,b4,fun j l v hj hv=>?_⟩;obtain⟨l0,d1,d2⟩:=c2 j l hj;exact d2.rep ((b5 j l0 v d1 hv).good g)
  |_=>simp[WkO]at a2
 ·intro id ty fz sz ver xs hid;obtain⟨o,a1,a2⟩:=h2 id _ hid;cases o with
  |ar=>
   simp[WkO]at a2;obtain⟨rfl,rfl,rfl,rfl,rfl⟩:=a2;rcases H.arr _ _ _ _ _ a1 with hn|⟨b,cs,T,e1,e2,e3,e4,e5,e6⟩
   ·exact .inl hn
   ·exact .inr ⟨b,cs,T,e1,e2,e3,e4,e5,fun i j e x hi hj=>let ⟨v,p,q⟩:=e6 i j e x hi hj;⟨v,p,q.good g⟩⟩
  |_=>simp[WkO]at a2
 ·intro i j o o' b hi hj hl ht hb hb';obtain⟨p,p1,p2⟩:=h2 i o hi;obtain⟨q,q1,q2⟩:=h2 j o' hj;exact H.apart i j p q b p1 q1 (by rw[←p2.live.1];exact hl) (by rw[←q2.live.2];exact ht) hb hb'
 ·intro i o b hi ht hb;obtain⟨p,p1,p2⟩:=h2 i o hi;exact H.off i p b p1 (by rw[←p2.live.2];exact ht) hb
set_option linter.unusedSectionVars false
set_option linter.unusedVariables false
variable [cJ]
def jM (P:Program) (f:FuncId):Bool:=match P.funcs[f]? with
 |some fn=>fn.name != "runtime.NumGoroutine" && fn.body.isSome
 |none=>false
def VC (P:Program) (f:FuncId) (avs:List V) (h:aB) (Post:V→aB→Prop):Prop:=
 jM P f=true∧∀(w:World) (μ:Pl) (args:Array Value),aR w μ h→avs.length=args.size→(∀(j:Nat) (v:V) (x:Value),avs[j]?=some v→args[j]?=some x→aZ w μ h v x)→
  CallsIn Fence.wide 0 P f args w fun e w'=>∃r x h' μ',e = .returned x∧Post r h'∧aR w' μ' h'∧aZ w' μ' h' r x∧Good w μ h w' μ' h'
theorem VC.mono {P:Program} {f:FuncId} {avs:List V} {h:aB} {Post Post':V→aB→Prop} (hc:VC P f avs h Post) (hp:∀r h',Post r h'→Post' r h'):VC P f avs h Post':=
 ⟨hc.1,fun w μ args H hl ha=>(hc.2 w μ args H hl ha).mono fun _ _ ⟨r,x,h',μ',e,p,a,b,c⟩=>⟨r,x,h',μ',e,hp _ _ p,a,b,c⟩⟩
def idx:List Nat→Nat→Option Nat
 |[],_=>none
 |i::r,id=>if i=id then some 0 else (idx r id).map (·+1)
def aG (m:Nat→Option Nat):L→Option L
 |.d x=>some (.d x)
 |.nils=>some .nils
 |.own id ver len=>(m id).map fun k=>.own k ver len
 |.ptr id off=>(m id).map fun k=>.ptr k off
 |.ept id ver i j=>(m id).map fun k=>.ept k ver i j
 |.ref cells=>some (.ref cells)
 |.fn f caps=>(renLs m caps).map (.fn f)
 |.nilf=>some .nilf
 |.any=>some .any
 |.bsl id off len=>(m id).map fun k=>.bsl k off len
 |.osl id ver off len=>(m id).map fun k=>.osl k ver off len
 |.nili=>some .nili
 |.fb f fst=>(renLs m fst).map (.fb f)
 where
 renLs (m:Nat→Option Nat):List L→Option (List L)
  |[]=>some []
  |l::r=>match aG m l,renLs m r with
   |some x,some xs=>some (x::xs)
   |_,_=>none
def bT (h:aB) (ids:List Nat):L→Option L
 |.own id ver len=>match idx ids id with
  |some k=>some (.own k ver len)
  |none=>match h[id]? with
   |some (.ar ty _ _ ver' xs)=>if ver'=ver then some (.d (.sl (xs.take len)))else none
   |_=>none
 |l=>aG (idx ids) l
def cW (h:aB) (ids:List Nat):List L→Option (List L)
 |[]=>some []
 |l::r=>match bT h ids l,cW h ids r with
  |some x,some xs=>some (x::xs)
  |_,_=>none
def bP (h:aB) (ids:List Nat):V→Option V
 |.one l=>(bT h ids l).map .one
 |.agg ls=>(cW h ids ls).map .agg
 |.tup _=>none
def cE (h:aB) (ids:List Nat):List V→Option (List V)
 |[]=>some []
 |v::r=>match bP h ids v,cE h ids r with
  |some x,some xs=>some (x::xs)
  |_,_=>none
def kU (ids:List Nat):L→List Nat
 |.own id _ _=>match idx ids id with
  |some _=>[]
  |none=>[id]
 |_=>[]
def lK (ids:List Nat):List L→List Nat
 |[]=>[]
 |l::r=>kU ids l++lK ids r
def mD (ids:List Nat):V→List Nat
 |.one l=>kU ids l
 |.agg ls=>lK ids ls
 |.tup _=>[]
def dM (ids:List Nat):List V→List Nat
 |[]=>[]
 |v::r=>mD ids v++dM ids r
def bD (m:Nat→Option Nat):aI→Option aI
 |.bx ty cells=>(aG.renLs m cells).map (.bx ty)
 |o=>some o
def hJ (m:Nat→Option Nat):V→Option V
 |.one l=>(aG m l).map .one
 |.agg ls=>(aG.renLs m ls).map .agg
 |.tup vs=>(renVs m vs).map .tup
 where
 renVs (m:Nat→Option Nat):List V→Option (List V)
  |[]=>some []
  |v::r=>match hJ m v,renVs m r with
   |some x,some xs=>some (x::xs)
   |_,_=>none
def bA (h:aB) (m:Nat→Option Nat):List Nat→Option aB
 |[]=>some []
 |id::r=>match h[id]? with
  |some o=>match bD m o,bA h m r with
   |some x,some xs=>some (x::xs)
   |_,_=>none
  |none=>none
def dN (ids:List Nat) (n:Nat) (k:Nat):Option Nat:=match ids[k]? with
 |some id=>some id
 |none=>some (n+(k-ids.length))
def jN (m:Nat→Option Nat):aB→Option aB
 |[]=>some []
 |o::r=>match bD m o,jN m r with
  |some x,some xs=>some (x::xs)
  |_,_=>none
def eV (h:aB):List Nat→aB→aB
 |id::r,o::os=>eV (h.set id o) r os
 |_,_=>h
def eB (h:aB):List Nat→aB
 |[]=>h
 |id::r=>eB (fzOne h id) r
def zc5:L→Bool
 |.d (.bool _)=>true
 |.d (.int _ _)=>true
 |.d (.str _)=>true
 |.d .nilp=>true
 |.nils=>true
 |.nilf=>true
 |.nili=>true
 |_=>false
def sR:V→Bool
 |.one l=>zc5 l
 |.agg ls=>ls.all zc5
 |.tup vs=>flatVs vs
 where
 flatVs:List V→Bool
  |[]=>true
  |v::r=>sR v&&flatVs r
def mE (h:aB) (ids lent:List Nat) (r:V) (hs:aB):Option (V×aB):=
 if ids.isEmpty&&sR r&&hs.isEmpty then some (r,h)else
 match hJ (dN ids h.length) r,jN (dN ids h.length) hs with
 |some r',some os=>some (r',eV (eB h lent) ids (os.take ids.length)++os.drop ids.length)
 |_,_=>none
def bO:List Nat→Bool
 |[]=>true
 |x::r=>!r.contains x&&bO r
def zo3 (P:Program) (f:FuncId) (avs:List V) (h:aB) (K:V→aB→Prop):Prop:=
 ∃(ids:List Nat) (avs':List V) (hs:aB) (Post:V→aB→Prop),bO ids=true∧cE h ids avs=some avs'∧bA h (idx ids) ids=some hs∧VC P f avs' hs Post∧
  ∀r hs',Post r hs'→∃r' h',mE h ids (dM ids avs) r hs'=some (r',h')∧K r' h'
def sS (h:aB) (id k sz:Nat):Option aB:=match h[id]? with
 |some (.bx ty cs)=>match cs[k]? with
  |some .nils=>some ((h++[aI.arr false sz 0 []]).set id (.bx ty (cs.set k (.own h.length 0 0))))
  |some (.bsl a 0 len)=>match h[a]? with
   |some (.box cells)=>if a≠id then some ((h.set a .dead++[aI.box cells]).set id (.bx ty (cs.set k (.bsl h.length 0 len))))else none
   |_=>none
  |_=>none
 |none=>some (h++[.dead])
 |_=>none
def eP (h:aB):List (Nat×Nat×Nat)→Option aB
 |[]=>some h
 |(id,k,sz)::r=>match sS h id k sz with
  |some h'=>eP h' r
  |none=>none
def sT (P:Program) (f:FuncId) (avs:List V) (h:aB) (K:V→aB→Prop):Prop:=
 ∃(bs:List (Nat×Nat×Nat)) (hn:aB) (avs1:List V) (h1:aB),eP h bs=some hn∧WkV.all avs avs1∧WkH hn h1∧zo3 P f avs1 h1 K
end Go.Vt
