import Derived.Below
import Derived.CallsIn
import Derived.OrdersIn
import Derived.TacticsIn
set_option linter.all false
open Nat renaming le_refl→ks0,le_trans→kD2,lt_of_lt_of_le→kD7
namespace Go.Vt
inductive D where
 |bool (b:Bool)
 |int (k:IntKind) (n:Int)
 |str (s:ByteArray)
 |sl (xs:List (List D))
 |nilp
inductive L where
 |d (x:D)
 |nils
 |own (id ver len:Nat)
 |ptr (id off:Nat)
 |ept (id ver i j:Nat)
 |ref (cells:List D)
 |fn (f:Nat) (caps:List L)
 |nilf
 |any
 |bsl (id off len:Nat)
 |osl (id ver off len:Nat)
 |nili
 |fb (f:Nat) (fst:List L)
inductive V where
 |one (l:L)
 |agg (ls:List L)
 |tup (vs:List V)
inductive aI where
 |bx (ty:Option TypeId) (cells:List L)
 |ar (ty:Option TypeId) (fz:Bool) (sz ver:Nat) (xs:List (List D))
 |dead
@[match_pattern,reducible] def aI.box (cells:List L):aI:=.bx none cells
@[match_pattern,reducible] def aI.arr (fz:Bool) (sz ver:Nat) (xs:List (List D)):aI:=.ar none fz sz ver xs
abbrev aB:=List aI
structure Pl where
 at_:Nat→Option Nat
 X:Nat→Prop
instance:CoeFun Pl (fun _=>Nat→Option Nat):=⟨Pl.at_⟩
def aI.live:aI→Bool
 |.bx _ _=>true
 |.ar _ fz _ _ _=>!fz
 |.dead=>false
def aI.there:aI→Bool
 |.dead=>false
 |_=>true
theorem kn4 {o:aI} (h:o.live=true):o.there=true:=by cases o<;>first|rfl|exact h
def Lv (μ:Pl) (h:aB) (b:Nat):Prop:=∃id o,h[id]?=some o∧o.live=true∧μ id=some b
def Mut (μ:Pl) (h:aB) (b:Nat):Prop:=Lv μ h b∨μ.X b
inductive cM (w:World) (M:Nat→Prop):D→Value→Prop
 |bool (b:Bool):cM w M (.bool b) (.bool b)
 |int (k:IntKind) (n:Int):cM w M (.int k n) (.int k n)
 |str (s:ByteArray):cM w M (.str s) (.string s)
 |nilp:cM w M .nilp (.pointer none)
 |sl0 (a:Option Addr) (cap:Nat):cM w M (.sl []) (.slice a 0 cap)
 |sl (sz:Nat) (xs:List (List D)) (b off cap:Nat) (vs:Nat→Nat→Value):xs≠[]→¬M b→b<w.heap.size→xs.length≤cap→
   (∀(i:Nat) (e:List D),xs[i]?=some e→e.length=sz)→
   (∀(i j:Nat) (e:List D) (x:D),xs[i]?=some e→e[j]?=some x→w.cell? ⟨b,off+(i*sz+j),none⟩=some (vs i j))→
   (∀(i j:Nat) (e:List D) (x:D),xs[i]?=some e→e[j]?=some x→cM w M x (vs i j))→
   cM w M (.sl xs) (.slice (some ⟨b,off,none⟩) xs.length cap)
inductive aY (w:World) (μ:Pl) (h:aB):L→Value→Prop
 |d {x:D} {v:Value}:cM w (Mut μ h) x v→aY w μ h (.d x) v
 |nils:aY w μ h .nils (.slice none 0 0)
 |own {id ver len:Nat} {ty:Option TypeId} {fr:Nat×Nat} {fz:Bool} {sz:Nat} {xs:List (List D)} {b cap:Nat} {cs:Array Value} {T:TypeId}:h[id]?=some (.ar ty fz sz ver xs)→len≤xs.length→μ id=some b→len≤cap→
   w.heap[b]?=some (.cells cs T fr)→cap*sz≤cs.size→aY w μ h (.own id ver len) (.slice (some ⟨b,0,none⟩) len cap)
 |ownNil {id ver:Nat} {ty:Option TypeId} {fz:Bool} {sz:Nat} {xs:List (List D)}:h[id]?=some (.ar ty fz sz ver xs)→μ id=none→aY w μ h (.own id ver 0) (.slice none 0 0)
 |ownOld {id ver len:Nat} {ty:Option TypeId} {fz:Bool} {sz ver':Nat} {xs:List (List D)} {v:Value}:h[id]?=some (.ar ty fz sz ver' xs)→ver<ver'→aY w μ h (.own id ver len) v
 |ownDead {id ver len:Nat} {v:Value}:h[id]?=some .dead→aY w μ h (.own id ver len) v
 |ptr {id off:Nat} {ty:Option TypeId} {cells:List L} {b:Nat}:h[id]?=some (.bx ty cells)→off≤cells.length→μ id=some b→aY w μ h (.ptr id off) (.pointer (some ⟨b,off,none⟩))
 |ptrDead {id off:Nat} {v:Value}:h[id]?=some .dead→aY w μ h (.ptr id off) v
 |ept {id ver i j:Nat} {ty:Option TypeId} {fz:Bool} {sz:Nat} {xs:List (List D)} {b:Nat}:h[id]?=some (.ar ty fz sz ver xs)→i<xs.length→j≤sz→μ id=some b→aY w μ h (.ept id ver i j) (.pointer (some ⟨b,i*sz+j,none⟩))
 |eptOld {id ver i j:Nat} {ty:Option TypeId} {fz:Bool} {sz ver':Nat} {xs:List (List D)} {v:Value}:h[id]?=some (.ar ty fz sz ver' xs)→ver<ver'→aY w μ h (.ept id ver i j) v
 |eptDead {id ver i j:Nat} {v:Value}:h[id]?=some .dead→aY w μ h (.ept id ver i j) v
 |ref {cells:List D} {b off:Nat} {vs:Nat→Value}:¬Mut μ h b→b<w.heap.size→(∀(j:Nat) (x:D),cells[j]?=some x→w.cell? ⟨b,off+j,none⟩=some (vs j))→
   (∀(j:Nat) (x:D),cells[j]?=some x→cM w (Mut μ h) x (vs j))→aY w μ h (.ref cells) (.pointer (some ⟨b,off,none⟩))
 |fn {f:Nat} {caps:List L} {cs:Array Value}:caps.length=cs.size→(∀(j:Nat) (l:L) (v:Value),caps[j]?=some l→cs[j]?=some v→aY w μ h l v)→aY w μ h (.fn f caps) (.func (.func f) #[] cs)
 |nilf:aY w μ h .nilf .nilFunc
 |any {v:Value}:aY w μ h .any v
 |bsl {id off len:Nat} {ty:Option TypeId} {fr:Nat×Nat} {cells:List L} {b cap:Nat} {cs:Array Value} {T:TypeId}:h[id]?=some (.bx ty cells)→off+len≤cells.length→μ id=some b→len≤cap→
   w.heap[b]?=some (.cells cs T fr)→off+cap≤cs.size→aY w μ h (.bsl id off len) (.slice (some ⟨b,off,none⟩) len cap)
 |bslDead {id off len:Nat} {v:Value}:h[id]?=some .dead→aY w μ h (.bsl id off len) v
 |osl {id ver off len:Nat} {ty:Option TypeId} {fr:Nat×Nat} {fz:Bool} {sz:Nat} {xs:List (List D)} {b cap:Nat} {cs:Array Value} {T:TypeId}:h[id]?=some (.ar ty fz sz ver xs)→off+len≤xs.length→μ id=some b→len≤cap→
   w.heap[b]?=some (.cells cs T fr)→(off+cap)*sz≤cs.size→aY w μ h (.osl id ver off len) (.slice (some ⟨b,off*sz,none⟩) len cap)
 |oslOld {id ver off len:Nat} {ty:Option TypeId} {fz:Bool} {sz ver':Nat} {xs:List (List D)} {v:Value}:h[id]?=some (.ar ty fz sz ver' xs)→ver<ver'→aY w μ h (.osl id ver off len) v
 |oslDead {id ver off len:Nat} {v:Value}:h[id]?=some .dead→aY w μ h (.osl id ver off len) v
 |nili:aY w μ h .nili .nilIface
 |fb {f:Nat} {fst:List L} {cs:Array Value}:fst.length=cs.size→(∀(j:Nat) (l:L) (v:Value),fst[j]?=some l→cs[j]?=some v→aY w μ h l v)→aY w μ h (.fb f fst) (.func (.func f) cs #[])
inductive aZ (w:World) (μ:Pl) (h:aB):V→Value→Prop
 |one {l:L} {v:Value}:v.oneCell'=true→aY w μ h l v→aZ w μ h (.one l) v
 |top {v:Value}:aZ w μ h (.one .any) v
 |agg {ls:List L} {cs:Array Value}:ls.length=cs.size→(∀(j:Nat) (l:L) (v:Value),ls[j]?=some l→cs[j]?=some v→aY w μ h l v)→(∀v∈cs,v.oneCell'=true)→aZ w μ h (.agg ls) (.agg cs)
 |tup {vs:List V} {cs:Array Value}:vs.length=cs.size→(∀(j:Nat) (l:V) (v:Value),vs[j]?=some l→cs[j]?=some v→aZ w μ h l v)→aZ w μ h (.tup vs) (.tuple cs)
theorem cM.oneCell {w:World} {M:Nat→Prop} {x:D} {v:Value} (h:cM w M x v):v.oneCell'=true:=by cases h<;>rfl
def aI.tyOk (w:World) (b:Nat):aI→Prop
 |.bx (some T) cells=>w.shape? b=some (T,cells.length)
 |.ar (some T) _ _ _ _=>∃n,w.shape? b=some (T,n)
 |_=>True
class cJ where
 Y:Nat→Option (Array Value)
set_option linter.unusedSectionVars false
set_option linter.unusedVariables false
variable [cJ]
structure aR (w:World) (μ:Pl) (h:aB):Prop where
 box:∀(id:Nat) {ty:Option TypeId} (cells:List L),h[id]?=some (.bx ty cells)→∃b cs T,μ id=some b∧w.heap[b]?=some (.cells cs T (0,0))∧cells.length≤cs.size∧
  (∀v∈cs,v.oneCell'=true)∧∀(j:Nat) (l:L) (v:Value),cells[j]?=some l→cs[j]?=some v→aY w μ h l v
 arr:∀(id:Nat) {ty:Option TypeId} (fz:Bool) (sz ver:Nat) (xs:List (List D)),h[id]?=some (.ar ty fz sz ver xs)→(μ id=none∧xs=[])∨
  ∃b cs T,μ id=some b∧w.heap[b]?=some (.cells cs T (0,0))∧xs.length*sz≤cs.size∧(∀v∈cs,v.oneCell'=true)∧(∀(i:Nat) (e:List D),xs[i]?=some e→e.length=sz)∧
   ∀(i j:Nat) (e:List D) (x:D),xs[i]?=some e→e[j]?=some x→∃v,cs[i*sz+j]?=some v∧cM w (Mut μ h) x v
 apart:∀(i j:Nat) (o o':aI) (b:Nat),h[i]?=some o→h[j]?=some o'→o.live=true→o'.there=true→μ i=some b→μ j=some b→i=j
 off:∀(i:Nat) (o:aI) (b:Nat),h[i]?=some o→o.there=true→μ i=some b→¬μ.X b
 old:∀b,μ.X b→b<w.heap.size
 ty:∀(id:Nat) (o:aI) (b:Nat),h[id]?=some o→μ id=some b→o.tyOk w b
 tab:∀(b:Nat) (c:Array Value),cJ.Y b=some c→(∃T fr,w.heap[b]?=some (.cells c T fr))∧¬Lv μ h b
structure Good (w:World) (μ:Pl) (h:aB) (w':World) (μ':Pl) (h':aB):Prop where
 os:w'.os=w.os
 tape:w'.tape=w.tape
 output:w'.output=w.output
 size:w.heap.size≤w'.heap.size
 out:μ'.X=μ.X
 block:∀b,b<w.heap.size→¬Lv μ h b→w'.heap[b]?=w.heap[b]?
 shape:∀(b:Nat) (cs:Array Value) (T:TypeId) (fr:Nat×Nat),w.heap[b]?=some (Obj.cells cs T fr)→∃(cs':Array Value) (fr':Nat×Nat),w'.heap[b]?=some (Obj.cells cs' T fr')∧cs'.size=cs.size
 fresh:∀b,Lv μ' h' b→Lv μ h b∨w.heap.size≤b
 len:h.length≤h'.length
 boxes:∀(id:Nat) {ty:Option TypeId} (cells:List L),h[id]?=some (.bx ty cells)→h'[id]?=some .dead∨∃cells' ty',h'[id]?=some (.bx ty' cells')∧cells'.length=cells.length∧μ' id=μ id
 arrs:∀(id:Nat) {ty:Option TypeId} (fz:Bool) (sz ver:Nat) (xs:List (List D)),h[id]?=some (.ar ty fz sz ver xs)→h'[id]?=some .dead∨
  ∃fz' sz' ver' xs' ty',h'[id]?=some (.ar ty' fz' sz' ver' xs')∧((ver'=ver∧sz'=sz∧xs'.length=xs.length∧μ' id=μ id)∨ver<ver')
 deads:∀(id:Nat),h[id]?=some .dead→h'[id]?=some .dead
theorem kn9 (w:World) (μ:Pl) (h:aB):Good w μ h w μ h:=
 ⟨rfl,rfl,rfl,ks0 _,rfl,fun _ _ _=>rfl,fun _ cs _ fr hb=>⟨cs,fr,hb,rfl⟩,fun _ hm=>.inl hm,ks0 _,
  fun _ _ cells hb=>.inr ⟨cells,_,hb,rfl,rfl⟩,fun _ _ fz sz ver xs hb=>.inr ⟨fz,sz,ver,xs,_,hb,.inl ⟨rfl,rfl,rfl,rfl⟩⟩,fun _ hb=>hb⟩
theorem Good.trans {w w1 w2:World} {μ μ1 μ2:Pl} {h h1 h2:aB} (g:Good w μ h w1 μ1 h1) (k:Good w1 μ1 h1 w2 μ2 h2):Good w μ h w2 μ2 h2 where
 os:=k.os.trans g.os
 tape:=k.tape.trans g.tape
 output:=k.output.trans g.output
 size:=kD2 g.size k.size
 out:=k.out.trans g.out
 block b hb hm:=by
  rw[k.block b (kD7 hb g.size) (fun hm'=>by rcases g.fresh b hm' with hm'|hm'<;>first|exact hm hm'|omega),g.block b hb hm]
 shape b cs T fr hb:=by
  obtain⟨cs1,f1,h1,e1⟩:=g.shape b cs T fr hb;obtain⟨cs2,f2,h2,e2⟩:=k.shape b cs1 T f1 h1;exact⟨cs2,f2,h2,e2.trans e1⟩
 fresh b hm:=by
  rcases k.fresh b hm with hm|hm
  ·exact g.fresh b hm
  ·exact .inr (kD2 g.size hm)
 len:=kD2 g.len k.len
 boxes id ty cells hb:=by
  rcases g.boxes id cells hb with hd|⟨c1,y1,h1,e1,m1⟩
  ·exact .inl (k.deads id hd)
  ·rcases k.boxes id c1 h1 with hd|⟨c2,y2,h2,e2,m2⟩
   ·exact .inl hd
   ·exact .inr ⟨c2,y2,h2,e2.trans e1,m2.trans m1⟩
 arrs id ty fz sz ver xs hb:=by
  rcases g.arrs id fz sz ver xs hb with hd|⟨f1,s1,v1,x1,y1,h1,e1⟩
  ·exact .inl (k.deads id hd)
  ·rcases k.arrs id f1 s1 v1 x1 h1 with hd|⟨f2,s2,v2,x2,y2,h2,e2⟩
   ·exact .inl hd
   ·refine .inr ⟨f2,s2,v2,x2,y2,h2,?_⟩;rcases e1 with⟨a,b,c,d⟩|e1
    ·rcases e2 with⟨a',b',c',d'⟩|e2
     ·exact .inl ⟨a'.trans a,b'.trans b,c'.trans c,d'.trans d⟩
     ·exact .inr (by omega)
    ·rcases e2 with⟨a',_⟩|e2
     ·exact .inr (by omega)
     ·exact .inr (by omega)
 deads id hb:=k.deads id (g.deads id hb)
theorem aR.tabs {w w':World} {μ μ':Pl} {h h':aB} (H:aR w μ h) (g:Good w μ h w' μ' h'):∀(b:Nat) (c:Array Value),cJ.Y b=some c→(∃T fr,w'.heap[b]?=some (.cells c T fr))∧¬Lv μ' h' b:=fun b o e=>by
 obtain⟨⟨T,fr,h1⟩,h2⟩:=H.tab b o e;have hlt:=(Array.getElem?_eq_some_iff.1 h1).1;refine⟨⟨T,fr,by rw[g.block b hlt h2];exact h1⟩,fun hl=>?_⟩;rcases g.fresh b hl with a|a
 ·exact h2 a
 ·omega
theorem Good.mut {w w':World} {μ μ':Pl} {h h':aB} (g:Good w μ h w' μ' h') (b:Nat) (hm:Mut μ' h' b):Mut μ h b∨w.heap.size≤b:=by
 rcases hm with hm|hm
 ·rcases g.fresh b hm with h|h
  ·exact .inl (.inl h)
  ·exact .inr h
 ·exact .inl (.inr (g.out▸hm))
theorem Good.cell {w w':World} {μ μ':Pl} {h h':aB} (g:Good w μ h w' μ' h') {b off:Nat} {v:Value} (hb:¬Mut μ h b) (hc:w.cell? ⟨b,off,none⟩=some v):w'.cell? ⟨b,off,none⟩=some v:=
 (World.cell?_of_block (w:=w) (g.block b (World.block_lt_of_cell? w _ hc) (fun hl=>hb (.inl hl)))).trans hc
theorem cM.step {w w':World} {M M':Nat→Prop} (hblk:∀b,b<w.heap.size→¬M b→w'.heap[b]?=w.heap[b]?) (hM:∀b,M' b→M b∨w.heap.size≤b) {x:D} {v:Value} (h:cM w M x v):cM w' M' x v:=by
 induction h with
 |bool b=>exact .bool b
 |int k n=>exact .int k n
 |str s=>exact .str s
 |nilp=>exact .nilp
 |sl0 a cap=>exact .sl0 a cap
 |sl sz xs b off cap vs hne hb hlt hcap hlen hcell _ ih=>
  exact .sl sz xs b off cap vs hne (fun hm=>by rcases hM b hm with hm|hm<;>first|exact hb hm|omega) (by
    rcases Nat.lt_or_ge b w'.heap.size with h|h
    ·exact h
    ·have:=hblk b hlt hb;rw[Array.getElem?_eq_none h,Array.getElem?_eq_getElem hlt]at this;cases this) hcap hlen
    (fun i j e x hi hj=>(World.cell?_of_block (w:=w) (hblk b hlt hb)).trans (hcell i j e x hi hj)) ih
theorem cM.good {w w':World} {μ μ':Pl} {h h':aB} (g:Good w μ h w' μ' h') {x:D} {v:Value} (hx:cM w (Mut μ h) x v):cM w' (Mut μ' h') x v:=hx.step (fun b hb hm=>g.block b hb (fun hl=>hm (.inl hl))) g.mut
theorem aY.good {w w':World} {μ μ':Pl} {h h':aB} (g:Good w μ h w' μ' h') {x:L} {v:Value} (hx:aY w μ h x v):aY w' μ' h' x v:=by
 induction hx with
 |d hd=>exact .d (hd.good g)
 |nils=>exact .nils
 |@own id ver len ty fr fz sz xs b cap cs T hid hlen hμ hcap hb hcs=>
  rcases g.arrs _ _ _ _ _ hid with hd|⟨f,s,v',xs',y',h1,⟨rfl,rfl,e3,e4⟩|e⟩
  ·exact .ownDead hd
  ·obtain⟨cs',fr',hb',e'⟩:=g.shape _ _ _ _ hb;exact .own h1 (by omega) (e4.trans hμ) hcap hb' (by omega)
  ·exact .ownOld h1 e
 |@ownNil id ver ty fz sz xs hid hμ=>
  rcases g.arrs _ _ _ _ _ hid with hd|⟨f,s,v',xs',y',h1,⟨rfl,rfl,e3,e4⟩|e⟩
  ·exact .ownDead hd
  ·exact .ownNil h1 (e4.trans hμ)
  ·exact .ownOld h1 e
 |ownOld hid hv=>
  rcases g.arrs _ _ _ _ _ hid with hd|⟨f,s,v',xs',y',h1,⟨rfl,rfl,e3,e4⟩|e⟩
  ·exact .ownDead hd
  ·exact .ownOld h1 hv
  ·exact .ownOld h1 (by omega)
 |ownDead hid=>exact .ownDead (g.deads _ hid)
 |ptr hid hoff hμ=>
  rcases g.boxes _ _ hid with hd|⟨c,y',h1,e1,e2⟩
  ·exact .ptrDead hd
  ·exact .ptr h1 (by omega) (e2.trans hμ)
 |ptrDead hid=>exact .ptrDead (g.deads _ hid)
 |ept hid hi hj hμ=>
  rcases g.arrs _ _ _ _ _ hid with hd|⟨f,s,v',xs',y',h1,⟨rfl,rfl,e3,e4⟩|e⟩
  ·exact .eptDead hd
  ·exact .ept h1 (by omega) hj (e4.trans hμ)
  ·exact .eptOld h1 e
 |eptOld hid hv=>
  rcases g.arrs _ _ _ _ _ hid with hd|⟨f,s,v',xs',y',h1,⟨rfl,rfl,e3,e4⟩|e⟩
  ·exact .eptDead hd
  ·exact .eptOld h1 hv
  ·exact .eptOld h1 (by omega)
 |eptDead hid=>exact .eptDead (g.deads _ hid)
 |@ref cells b off vs hb hlt hc hd=>
  exact .ref (fun hm=>by rcases g.mut b hm with hm|hm<;>first|exact hb hm|omega) (kD7 hlt g.size)
   (fun j x hj=>(World.cell?_of_block (w:=w) (g.block b hlt (fun hl=>hb (.inl hl)))).trans (hc j x hj)) (fun j x hj=>(hd j x hj).good g)
 |fn hl _ ih=>exact .fn hl ih
 |nilf=>exact .nilf
 |any=>exact .any
 |@bsl id off len ty fr cells b cap cs T hid hoff hμ hcap hb hcs=>
  rcases g.boxes _ _ hid with hd|⟨c,y',h1,e1,e2⟩
  ·exact .bslDead hd
  ·obtain⟨cs',fr',hb',e'⟩:=g.shape _ _ _ _ hb;exact .bsl h1 (by omega) (e2.trans hμ) hcap hb' (by omega)
 |bslDead hid=>exact .bslDead (g.deads _ hid)
 |@osl id ver off len ty fr fz sz xs b cap cs T hid hlen hμ hcap hb hcs=>
  rcases g.arrs _ _ _ _ _ hid with hd|⟨f,s,v',xs',y',h1,⟨rfl,rfl,e3,e4⟩|e⟩
  ·exact .oslDead hd
  ·obtain⟨cs',fr',hb',e'⟩:=g.shape _ _ _ _ hb;exact .osl h1 (by omega) (e4.trans hμ) hcap hb' (by omega)
  ·exact .oslOld h1 e
 |oslOld hid hv=>
  rcases g.arrs _ _ _ _ _ hid with hd|⟨f,s,v',xs',y',h1,⟨rfl,rfl,e3,e4⟩|e⟩
  ·exact .oslDead hd
  ·exact .oslOld h1 hv
  ·exact .oslOld h1 (by omega)
 |oslDead hid=>exact .oslDead (g.deads _ hid)
 |nili=>exact .nili
 |fb hl _ ih=>exact .fb hl ih
theorem zP8 {w w':World} {μ μ':Pl} {h h':aB} (g:Good w μ h w' μ' h') {b n:Nat} {T:TypeId} (hs:w.shape? b=some (T,n)):w'.shape? b=some (T,n):=by
 unfold World.shape? at hs;split at hs
 ·rename_i cs T' fr hb;cases hs;obtain⟨cs',fr',h1,e1⟩:=g.shape _ _ _ _ hb;simp[World.shape?,h1,e1]
 ·cases hs
theorem aI.tyOk.good {w w':World} {μ μ':Pl} {h h':aB} (g:Good w μ h w' μ' h') {b:Nat} {o:aI} (hs:o.tyOk w b):o.tyOk w' b:=by
 unfold aI.tyOk at *;split
 ·exact zP8 g hs
 ·obtain⟨n,hn⟩:=hs;exact⟨n,zP8 g hn⟩
 ·trivial
theorem aZ.good {w w':World} {μ μ':Pl} {h h':aB} (g:Good w μ h w' μ' h') {x:V} {v:Value} (hx:aZ w μ h x v):aZ w' μ' h' x v:=by
 induction hx with
 |one ho hl=>exact .one ho (hl.good g)
 |top=>exact .top
 |agg hl hc h1=>exact .agg hl (fun j l v a b=>(hc j l v a b).good g) h1
 |tup hl _ ih=>exact .tup hl ih
end Go.Vt
