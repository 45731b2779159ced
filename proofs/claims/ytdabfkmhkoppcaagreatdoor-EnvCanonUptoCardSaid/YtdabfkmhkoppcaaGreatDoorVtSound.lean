import Derived.Test.YtdabfkmhkoppcaaGreatDoorVtOps
import Derived.Laws.Cells
import Derived.Laws.Rows
import Derived.Laws.Tables
import Derived.WalkKit
set_option linter.all false
open Array renaming getD_eq_getD_getElem?→kx1,getElem?_eq_getElem→ks6,getElem?_eq_some_iff→kt0,getElem_of_mem→kz6,mem_of_getElem?→kA0
open List renaming getElem?_append_left→kr9,getElem?_append→kB3,getElem?_drop→kv4,getElem?_eq_getElem→kr1,getElem?_eq_none→kz0,getElem?_eq_some_iff→kp9,getElem?_map→ks1,getElem?_set_ne→ku5,getElem?_set→ky5,getElem?_take_of_lt→ks5,length_cons→kr4,range→kt4
open Nat renaming add_assoc→kD5,le_of_eq→kJ8,le_refl→ks0,lt_of_lt_of_le→kD7,mul_le_mul_right→kv6,succ_mul→kD3,zero_add→kt2,zero_le→kt1
namespace Go.Vt
set_option linter.unusedSectionVars false
set_option linter.unusedVariables false
variable [cJ]
variable {P:Program} {w:World} {μ:Pl} {h:aB} {T:Sl} {a:Act}
def dP (w:World) (μ:Pl) (h:aB) (T:Sl) (a:Act):Prop:=∀i v,T.lookup i=some v→aZ w μ h v (a.tmps.getD i undef)
theorem dP.good {w':World} {μ':Pl} {h':aB} (g:Good w μ h w' μ' h') (s:dP w μ h T a):dP w' μ' h' T a:=fun i v hi=>(s i v hi).good g
def dT (P:Program) (w:World) (μ:Pl) (h:aB) (m:Sem Next) (v:V) (h':aB):Prop:=
 ∃n w' μ' x,m.run P w = .ok n w'∧(n = .value x∨(n = .skip∧x=undef))∧aR w' μ' h'∧aZ w' μ' h' v x∧Good w μ h w' μ' h'
theorem dT.same {m:Sem Next} {v:V} {x:Value} (H:aR w μ h) (hx:aZ w μ h v x) (hr:m.run P w = .ok (.value x) w):dT P w μ h m v h:=
 ⟨_,w,μ,x,hr,.inl rfl,H,hx,kn9 _ _ _⟩
theorem fE {t:TypeId} {i:TI} (hi:ti P t=some i):∃I d,P.info? t=some I∧P.underlying t=some d∧i.size=I.size∧i.bytes=I.bytes∧i.agg=oO d∧i.zero=I.zero.bind jL∧i.kd=pF d∧
  (∀fs,d = .struct fs→sN P fs.toList=some i.flds)∧(∀e,d = .slice e→i.el=iU P e)∧(i.el.isSome=true→∃e,d = .slice e)∧(∀n e,d = .array n e→∃J dd,P.info? e=some J∧P.underlying e=some dd∧i.flds=(kt4 n).map fun k=>(k*J.size,J.size,oO dd)):=by
 unfold ti at hi;split at hi
 ·rename_i I d h1 h2;split at hi
  ·rename_i fl hfl;cases hi;refine⟨I,d,h1,h2,rfl,rfl,rfl,rfl,rfl,?_,?_,?_,?_⟩
   ·rintro fs rfl;exact hfl
   ·rintro e rfl;rfl
   ·intro he;cases d<;>first|exact⟨_,rfl⟩|cases he
   ·rintro n e rfl;simp only[zP9]at hfl;split at hfl
    ·rename_i J dd g1 g2;cases hfl;exact⟨J,dd,g1,g2,rfl⟩
    ·cases hfl
  ·cases hi
 ·cases hi
theorem zQ2 {t:TypeId} {i:TI} (hi:ti P t=some i):(isAgg t).run P w = .ok i.agg w:=by
 obtain⟨I,d,h1,h2,h3,h4,h5,_⟩:=fE hi;simp only[isAgg,Sem.run_bind,run_underlying h2,Result.andThen,h5];cases d<;>rfl
theorem zQ3 {t:TypeId} {i:TI} (hi:ti P t=some i):(sizeOf t).run P w = .ok i.size w:=by
 obtain⟨I,d,h1,h2,h3,h4,h5,_⟩:=fE hi;simp[sizeOf,typeInfo,h1,h3,Result.andThen]
theorem pH {e:TypeId} {x:EI} (hi:iU P e=some x):∃I d,P.info? e=some I∧P.underlying e=some d∧x.size=I.size∧x.bytes=I.bytes∧x.zero=I.zero.bind jL∧x.agg=oO d:=by
 unfold iU at hi;split at hi
 ·rename_i I d h1 h2;cases hi;exact⟨I,d,h1,h2,rfl,rfl,rfl,rfl⟩
 ·cases hi
theorem oP {e:TypeId} {x:EI} (hi:iU P e=some x):(sizeOf e).run P w = .ok x.size w:=by
 obtain⟨I,d,h1,h2,h3,_⟩:=pH hi;simp[sizeOf,typeInfo,h1,h3,Result.andThen]
theorem zm8:∀{fs:List Field} {fl:List (Nat×Nat×Bool)},sN P fs=some fl→∀{k:Nat} {x:Nat×Nat×Bool},fl[k]?=some x→∃F,fs[k]?=some F∧zb9 P F=some x
 |[],fl,hf,k,x,hk=>by cases hf;simp at hk
 |f::r,fl,hf,k,x,hk=>by
  unfold sN at hf;split at hf
  ·rename_i y ys hy hys;cases hf;cases k with
   |zero=>simp at hk;subst hk;exact⟨f,rfl,hy⟩
   |succ k=>obtain⟨F,h1,h2⟩:=zm8 hys (k:=k) (by simpa using hk);exact⟨F,by simpa using h1,h2⟩
  ·cases hf
theorem zm9 {F:Field} {x:Nat×Nat×Bool} (hx:zb9 P F=some x):∃I d,P.info? F.type=some I∧P.underlying F.type=some d∧x=(F.offset,I.size,oO d):=by
 unfold zb9 at hx;split at hx
 ·rename_i I d h1 h2;cases hx;exact⟨I,d,h1,h2,rfl⟩
 ·cases hx
theorem jm3 {t:TypeId} {i:TI} {z:V} (hi:ti P t=some i) (hz:i.zero=some z):∃x,(zeroValue t).run P w = .ok x w∧jL x=some z:=by
 obtain⟨I,d,h1,h2,h3,h4,h5,h6,_⟩:=fE hi;rw[h6]at hz;cases hI:I.zero with
 |none=>simp[hI]at hz
 |some x=>
  refine⟨x,?_,by simpa[hI]using hz⟩;simp[zeroValue,typeInfo,h1,hI,Result.andThen]
theorem zc1 {x:Value} {l:L} (hx:oN x=some l):aY w μ h l x∧x.oneCell'=true:=by
 unfold oN at hx;split at hx<;>cases hx
 ·exact⟨.d (.bool _),rfl⟩
 ·exact⟨.d (.int _ _),rfl⟩
 ·exact⟨.d (.str _),rfl⟩
 ·exact⟨.nils,rfl⟩
 ·exact⟨.d .nilp,rfl⟩
 ·exact⟨.nilf,rfl⟩
 ·exact⟨.nili,rfl⟩
theorem zn0:∀{xs:List Value} {ls:List L},nS xs=some ls→ls.length=xs.length∧(∀v∈xs,v.oneCell'=true)∧∀(j:Nat) (l:L) (v:Value),ls[j]?=some l→xs[j]?=some v→aY w μ h l v
 |[],ls,hx=>by cases hx;exact⟨rfl,by simp,by simp⟩
 |x::xs,ls,hx=>by
  unfold nS at hx;split at hx
  ·rename_i l r hl hr;cases hx;obtain⟨h1,h2,h3⟩:=zn0 hr;obtain⟨h4,h5⟩:=zc1 (w:=w) (μ:=μ) (h:=h) hl;refine⟨by simp[h1],?_,?_⟩
   ·intro v hv;rcases List.mem_cons.1 hv with e|hv
    ·rw[e];exact h5
    ·exact h2 v hv
   ·intro j l' v hj hv;cases j with
    |zero=>simp at hj hv;subst hj;subst hv;exact h4
    |succ j=>exact h3 j l' v (by simpa using hj) (by simpa using hv)
  ·cases hx
theorem xB {x:Value} {v:V} (hx:jL x=some v):aZ w μ h v x:=by
 unfold jL at hx;split at hx
 ·rename_i cs;cases hc:nS cs.toList with
  |none=>simp[hc]at hx
  |some ls=>
   simp[hc]at hx;subst hx;obtain⟨h1,h2,h3⟩:=zn0 (w:=w) (μ:=μ) (h:=h) hc;exact .agg (by simpa using h1) (fun j l v hj hv=>h3 j l v hj (by simpa using hv)) (fun v hv=>h2 v (by simpa using hv))
 ·cases hc:oN x with
  |none=>simp[hc]at hx
  |some l=>
   simp[hc]at hx;subst hx;obtain⟨h1,h2⟩:=zc1 (w:=w) (μ:=μ) (h:=h) hc;exact .one h2 h1
theorem bR (s:dP w μ h T a) {x:Operand} {v:V} (hx:opd T x=some v):aZ w μ h v (a.eval x):=by
 cases x with
 |tmp t=>exact s t v hx
 |const c=>exact xB hx
 |func f=>cases hx;exact .one rfl (.fn rfl (by simp))
 |global g=>cases hx
theorem aZ.cells {v:V} {x:Value} {ls:List L} (hx:aZ w μ h v x) (hv:iG v=some ls) (hn:ls≠[.any]∨x.oneCell'=true):ls.length=x.cells.size∧(∀c∈x.cells,c.oneCell'=true)∧∀(j:Nat) (l:L) (c:Value),ls[j]?=some l→x.cells[j]?=some c→aY w μ h l c:=by
 have one_cells:∀{x:Value},x.oneCell'=true→x.cells=#[x]:=by intro x hx;cases x<;>first|rfl|cases hx
 cases hx with
 |one ho hl=>
  cases hv;rw[one_cells ho];refine⟨rfl,by simpa using ho,?_⟩;intro j l c hj hc;cases j with
  |zero=>simp at hj hc;subst hj;subst hc;exact hl
  |succ j=>simp at hj
 |top=>
  cases hv;have ho:x.oneCell'=true:=by rcases hn with hn|hn;exact absurd rfl hn;exact hn
  rw[one_cells ho];refine⟨rfl,by simpa using ho,?_⟩;intro j l c hj hc;cases j with
  |zero=>simp at hj;subst hj;exact .any
  |succ j=>simp at hj
 |agg hl hc h1=>cases hv;exact⟨hl,h1,hc⟩
 |tup=>cases hv
theorem zn1 {i:TI} {ls:List L} {v:V} (hv:mkV i ls=some v) (ad:Addr) {t:TypeId} (ht:ti P t=some i)
  (hc:∀(j:Nat) (l:L),ls[j]?=some l→j<(if i.agg then i.size else 1)→∃x,w.cell? (ad.add j)=some x∧x.oneCell'=true∧aY w μ h l x) :
  ∃x,(loadVar t ad).run P w = .ok x w∧aZ w μ h v x:=by
 unfold mkV at hv;by_cases hagg:i.agg=true
 ·simp only[hagg,if_true]at hv hc;split at hv
  ·rename_i hsz;cases hv;have hc':∀j:Nat,j<i.size→∃x:Value,w.cell? (ad.add j)=some x∧x.oneCell'=true∧∃l,ls[j]?=some l∧aY w μ h l x:=by
    intro j hj;obtain⟨x,h1,h2,h3⟩:=hc j (ls[j]'(by omega)) (kr1 (by omega)) hj;exact⟨x,h1,h2,_,kr1 (by omega),h3⟩
   let f:Nat→Value:=fun j=>if hj:j<i.size then (hc' j hj).choose else undef
   have hf:∀j,j<i.size→w.cell? (ad.add j)=some (f j)∧(f j).oneCell'=true∧∃l,ls[j]?=some l∧aY w μ h l (f j):=by
    intro j hj;have:=(hc' j hj).choose_spec;simp only[f,hj,dif_pos];exact this
   refine⟨.agg ((kt4 i.size).map f).toArray,?_,?_⟩
   ·simp only[loadVar,Sem.run_bind,zQ2 ht,Result.andThen,hagg,if_true,zQ3 ht,run_loadCells (P:=P) w ad i.size f (fun j hj=>(hf j hj).1),Sem.run_pure]
   ·refine .agg (by simp;omega) ?_ ?_
    ·intro j l x hj hx;have hjs:j<i.size:=by
      rcases Nat.lt_or_ge j i.size with hlt|hge
      ·exact hlt
      ·rw[kz0 (by simp;omega)]at hj;cases hj
     have hx':x=f j:=by
      simp[hjs]at hx;exact hx.symm
     obtain⟨_,_,l',hl',hr⟩:=hf j hjs;rw[ks5 hjs]at hj;rw[hl']at hj;cases hj;rw[hx'];exact hr
    ·intro x hx;simp at hx;obtain⟨j,hj,rfl⟩:=hx;exact(hf j hj).2.1
  ·cases hv
 ·simp only[hagg]at hv hc;cases ls with
  |nil=>cases hv
  |cons l r=>
   cases hv;obtain⟨x,h1,h2,h3⟩:=hc 0 l rfl (by simp);have h1':w.cell? ad=some x:=by simpa[Addr.add]using h1
   refine⟨x,?_,.one h2 h3⟩;simp only[loadVar,Sem.run_bind,zQ2 ht,Result.andThen,hagg];simp[h1']
theorem gW (b o n:Nat):Addr.add ⟨b,o,none⟩ n=⟨b,o+n,none⟩:=by
 unfold Addr.add;split<;>simp_all
theorem pI {g:Nat} {cs:Array Value} {t:TypeId} {fr:Nat×Nat} (hg:w.heap[g]?=some (.cells cs t fr)) (i:Nat):w.cell? ⟨g,i,none⟩=cs[i]?:=by
 simp[World.cell?,hg]
theorem zQ4 {i:TI} {t:TypeId} {p:L} {v:V} {x:Value} (H:aR w μ h) (ht:ti P t=some i) (hp:aY w μ h p x) (hv:cN h i p=some v) :
  ∃y,(Instr.loadAt t x).run P w = .ok y w∧aZ w μ h v y:=by
 unfold cN at hv;split at hv
 ·rename_i id off;split at hv
  ·rename_i cells hid;cases hp with
   |ptr hid' hoff hμ=>
    rw[hid]at hid';cases hid';obtain⟨b,cs,T,hb,hw,hsz,h1,hl⟩:=H.box _ _ hid;rw[hμ]at hb;cases hb;obtain⟨y,hy,hr⟩:=zn1 (P:=P) (w:=w) (μ:=μ) (h:=h) hv ⟨_,off,none⟩ ht (fun j l hj _=>by
     rw[kv4]at hj;have hlt:off+j<cs.size:=kD7 (kp9.1 hj).1 hsz;refine⟨cs[off+j],?_,h1 _ (Array.getElem_mem hlt),hl (off+j) l _ hj (ks6 hlt)⟩;rw[gW,pI hw,ks6 hlt])
    exact⟨y,by simp only[Instr.loadAt,Instr.sureAddr,Sem.run_bind,Sem.run_pure,Result.andThen,hy],hr⟩
   |ptrDead hid'=>rw[hid]at hid';cases hid'
  ·cases hv
 ·rename_i id ver k j;split at hv
  ·rename_i fz sz ver' xs hid;split at hv
   ·rename_i hver;subst hver;split at hv
    ·rename_i e he;cases hp with
     |ept hid' hk hj hμ=>
      rw[hid]at hid';cases hid';rcases H.arr _ _ _ _ _ hid with⟨hn,_⟩|⟨b,cs,T,hb,hw,hsz,h1,hlen,hl⟩
      ·rw[hμ]at hn;cases hn
      ·rw[hμ]at hb;cases hb;obtain⟨y,hy,hr⟩:=zn1 (P:=P) (w:=w) (μ:=μ) (h:=h) hv ⟨_,k*sz+j,none⟩ ht (fun q l hq _=>by
        rw[ks1,kv4]at hq;cases hx:e[j+q]? with
        |none=>simp[hx]at hq
        |some x=>
         simp[hx]at hq;subst hq;obtain⟨u,hu,hd⟩:=hl k (j+q) e x he hx;refine⟨u,?_,hd.oneCell,.d hd⟩;rw[gW,pI hw,←hu];congr 1;omega)
       exact⟨y,by simp only[Instr.loadAt,Instr.sureAddr,Sem.run_bind,Sem.run_pure,Result.andThen,hy],hr⟩
     |eptOld hid' hv'=>rw[hid]at hid';cases hid';omega
     |eptDead hid'=>rw[hid]at hid';cases hid'
    ·cases hv
   ·cases hv
  ·cases hv
 ·rename_i cells;cases hp with
  |ref hb hlt hc hd=>
   obtain⟨y,hy,hr⟩:=zn1 (P:=P) (w:=w) (μ:=μ) (h:=h) hv ⟨_,_,none⟩ ht (fun j l hj _=>by
    rw[ks1]at hj;cases hx:cells[j]? with
    |none=>simp[hx]at hj
    |some x=>
     simp[hx]at hj;subst hj;exact⟨_,by rw[gW];exact hc j x hx,(hd j x hx).oneCell,.d (hd j x hx)⟩)
   exact⟨y,by simp only[Instr.loadAt,Instr.sureAddr,Sem.run_bind,Sem.run_pure,Result.andThen,hy],hr⟩
 ·cases hv
def Pl.put (μ:Pl) (id:Nat) (b:Option Nat):Pl:={ at_:=fun k=>if k=id then b else μ k,X:=μ.X }
theorem ko3 (μ:Pl) (id:Nat) (b:Option Nat):μ.put id b id=b:=by simp[Pl.put]
theorem ko4 (μ:Pl) (id k:Nat) (b:Option Nat) (hk:k≠id):μ.put id b k=μ k:=by simp[Pl.put,hk]
theorem kS {h:aB} {o o':aI} {id:Nat} (hg:(h++[o])[id]?=some o'):(id<h.length∧h[id]?=some o')∨(id=h.length∧o'=o):=by
 rcases Nat.lt_trichotomy id h.length with hlt|heq|hgt
 ·left;rw[kr9 hlt]at hg;exact⟨hlt,hg⟩
 ·right;subst heq;simp at hg;exact⟨rfl,hg.symm⟩
 ·rw[kz0 (by simp;omega)]at hg;cases hg
theorem nU {h:aB} (o:aI) {id:Nat} {o':aI} (hg:h[id]?=some o'):(h++[o])[id]?=some o':=by
 have hlt:=(kp9.1 hg).1;rw[kr9 hlt];exact hg
theorem Good.push (w:World) (μ:Pl) (h:aB) (o:aI) (ob:Obj):Good w μ h (w.alloc ob) (μ.put h.length (some w.heap.size)) (h++[o]) where
 os:=rfl
 tape:=rfl
 output:=rfl
 size:=by simp
 out:=rfl
 block b hb _:=Go.RowKit.Below.heap_alloc _ _ _ hb
 shape b cs T fr hb:=⟨cs,_,(Go.RowKit.Below.heap_alloc _ _ _ (kt0.1 hb).1).trans hb,rfl⟩
 fresh b hm:=by
  obtain⟨id,o',h1,h2,h3⟩:=hm;rcases kS h1 with⟨hlt,h1⟩|⟨rfl,rfl⟩
  ·rw[ko4 _ _ _ _ (by omega)]at h3;exact .inl ⟨id,o',h1,h2,h3⟩
  ·rw[ko3]at h3;cases h3;exact .inr (ks0 _)
 len:=by simp
 boxes id ty cells hb:=.inr ⟨cells,ty,nU o hb,rfl,ko4 _ _ _ _ (by have:=(kp9.1 hb).1;omega)⟩
 arrs id ty fz sz ver xs hb:=.inr ⟨fz,sz,ver,xs,ty,nU o hb,.inl ⟨rfl,rfl,rfl,ko4 _ _ _ _ (by have:=(kp9.1 hb).1;omega)⟩⟩
 deads id hb:=nU o hb
def xC (w:World) (μ:Pl) (h:aB) (cs:Array Value):aI→Prop
 |.bx _ cells=>cells.length≤cs.size∧(∀v∈cs,v.oneCell'=true)∧∀(j:Nat) (l:L) (v:Value),cells[j]?=some l→cs[j]?=some v→aY w μ h l v
 |.ar _ _ sz _ xs=>xs.length*sz≤cs.size∧(∀v∈cs,v.oneCell'=true)∧(∀(i:Nat) (e:List D),xs[i]?=some e→e.length=sz)∧
   ∀(i j:Nat) (e:List D) (x:D),xs[i]?=some e→e[j]?=some x→∃v,cs[i*sz+j]?=some v∧cM w (Mut μ h) x v
 |.dead=>True
theorem aR.push (H:aR w μ h) {o:aI} {cs:Array Value} {T:TypeId} (ho:xC w μ h cs o) (hty:o.tyOk (w.alloc (.cells cs T)) w.heap.size:=by trivial) :
  aR (w.alloc (.cells cs T)) (μ.put h.length (some w.heap.size)) (h++[o]):=by
 have g:=Good.push w μ h o (.cells cs T);have hnew:(w.alloc (.cells cs T)).heap[w.heap.size]?=some (.cells cs T (0,0)):=by show(w.heap.push _)[w.heap.size]?=_;simp
 refine⟨?_,?_,?_,?_,fun b hb=>kD7 (H.old b hb) (by simp),fun i o1 k hi m1=>by
  rcases kS hi with⟨hlt,hi1⟩|⟨e1,e2⟩
  ·rw[ko4 _ _ _ _ (by omega)]at m1;exact(H.ty _ _ _ hi1 m1).good g
  ·rw[e1,ko3]at m1;cases m1;rw[e2];exact hty,H.tabs g⟩
 ·intro id ty cells hid;rcases kS hid with⟨hlt,hid⟩|⟨rfl,rfl⟩
  ·obtain⟨b,cs',T',h1,h2,h3,h4,h5⟩:=H.box _ _ hid;exact⟨b,cs',T',by rw[ko4 _ _ _ _ (by omega)];exact h1,(Go.RowKit.Below.heap_alloc _ _ _ (kt0.1 h2).1).trans h2,h3,h4,fun j l v hj hv=>(h5 j l v hj hv).good g⟩
  ·exact⟨w.heap.size,cs,T,ko3 _ _ _,hnew,ho.1,ho.2.1,fun j l v hj hv=>(ho.2.2 j l v hj hv).good g⟩
 ·intro id ty fz sz ver xs hid;rcases kS hid with⟨hlt,hid⟩|⟨rfl,rfl⟩
  ·rw[ko4 _ _ _ _ (by omega)];rcases H.arr _ _ _ _ _ hid with hn|⟨b,cs',T',h1,h2,h3,h4,h5,h6⟩
   ·exact .inl hn
   ·exact .inr ⟨b,cs',T',h1,(Go.RowKit.Below.heap_alloc _ _ _ (kt0.1 h2).1).trans h2,h3,h4,h5,fun i j e x hi hj=>let ⟨v,a,b⟩:=h6 i j e x hi hj;⟨v,a,b.good g⟩⟩
  ·exact .inr ⟨w.heap.size,cs,T,ko3 _ _ _,hnew,ho.1,ho.2.1,ho.2.2.1,fun i j e x hi hj=>let ⟨v,a,b⟩:=ho.2.2.2 i j e x hi hj;⟨v,a,b.good g⟩⟩
 ·intro i j o1 o2 b hi hj t1 t2 m1 m2;have lt_of:∀{id:Nat} {o:aI} {b:Nat},h[id]?=some o→o.there=true→μ id=some b→b<w.heap.size:=by
   intro id o b hid ht hm;cases o with
   |bx ty cells=>obtain⟨b',cs',T',h1,h2,_⟩:=H.box _ _ hid;rw[hm]at h1;cases h1;exact(kt0.1 h2).1
   |ar ty fz sz ver xs=>
    rcases H.arr _ _ _ _ _ hid with⟨hn,_⟩|⟨b',cs',T',h1,h2,_⟩
    ·rw[hm]at hn;cases hn
    ·rw[hm]at h1;cases h1;exact(kt0.1 h2).1
   |dead=>cases ht
  rcases kS hi with⟨hlt,hi1⟩|⟨e1,_⟩<;>rcases kS hj with⟨hlt',hj1⟩|⟨e2,_⟩
  ·rw[ko4 _ _ _ _ (by omega)]at m1 m2;exact H.apart i j o1 o2 b hi1 hj1 t1 t2 m1 m2
  ·rw[ko4 _ _ _ _ (by omega)]at m1;rw[e2,ko3]at m2;cases m2;have:=lt_of hi1 (kn4 t1) m1;omega
  ·rw[ko4 _ _ _ _ (by omega)]at m2;rw[e1,ko3]at m1;cases m1;have:=lt_of hj1 t2 m2;omega
  ·rw[e1,e2]
 ·intro i o1 b hi t1 m1;rcases kS hi with⟨hlt,hi1⟩|⟨e1,_⟩
  ·rw[ko4 _ _ _ _ (by omega)]at m1;exact H.off i o1 b hi1 t1 m1
  ·rw[e1,ko3]at m1;cases m1;intro hx;have:=H.old _ hx;omega
theorem zQ5 (H:aR w μ h) {cs:Array Value} {ls:List L} {t:TypeId} (h1:ls.length=cs.size) (h2:∀v∈cs,v.oneCell'=true) (h3:∀(j:Nat) (l:L) (v:Value),ls[j]?=some l→cs[j]?=some v→aY w μ h l v) :
  aR (w.alloc (.cells cs t)) (μ.put h.length (some w.heap.size)) (h++[kC P t ls]):=by
 obtain⟨ty,e,e'⟩:=zQ1 P t ls;rw[e];refine H.push (o:=.bx ty ls) ⟨kJ8 h1,h2,h3⟩ ?_;rcases e' with rfl|rfl
 ·trivial
 ·show World.shape? _ _=_;have hnew:(w.alloc (.cells cs t)).heap[w.heap.size]?=some (.cells cs t (0,0)):=by show(w.heap.push _)[w.heap.size]?=_;simp
  simp only[World.shape?,hnew,h1]
theorem zQ6 {cs:Array Value} {ls:List L} {t:TypeId}:aY (w.alloc (.cells cs t)) (μ.put h.length (some w.heap.size)) (h++[kC P t ls]) (.ptr h.length 0) (.pointer (some ⟨w.heap.size,0,none⟩)):=by
 obtain⟨ty,e,_⟩:=zQ1 P t ls;rw[e];exact .ptr (ty:=ty) (cells:=ls) (by simp) (kt1 _) (ko3 _ _ _)
theorem jm4 {v:V} {x:Value} {ls:List L} (H:aR w μ h) (hx:aZ w μ h v x) (hv:iG v=some ls) (hn:ls≠[.any]) (t:TypeId) :
  ∃μ',(newVar t x).run P w = .ok ⟨w.heap.size,0,none⟩ (w.alloc (.cells x.cells t))∧aR (w.alloc (.cells x.cells t)) μ' (h++[kC P t ls])∧
   aY (w.alloc (.cells x.cells t)) μ' (h++[kC P t ls]) (.ptr h.length 0) (.pointer (some ⟨w.heap.size,0,none⟩))∧Good w μ h (w.alloc (.cells x.cells t)) μ' (h++[kC P t ls]):=by
 obtain⟨h1,h2,h3⟩:=hx.cells hv (.inl hn);exact⟨_,rfl,zQ5 H h1 h2 h3,zQ6,Good.push _ _ _ _ _⟩
theorem zn2 {d:TypeDesc} (hk:pF d = .struct):∃fs,d = .struct fs:=by cases d<;>first|exact⟨_,rfl⟩|cases hk
theorem pJ {d:TypeDesc} (hk:pF d = .slice):∃e,d = .slice e:=by cases d<;>first|exact⟨_,rfl⟩|cases hk
theorem xD {d:TypeDesc} (hk:pF d = .str):d = .string:=by cases d<;>first|rfl|cases hk
theorem jm5 {d:TypeDesc} {k:IntKind} (hk:pF d = .int k):d = .int k:=by cases d<;>first|(cases hk;rfl)|cases hk
theorem jm6 {i:TI} {t:TypeId} {f:Nat} {F:Nat×Nat×Bool} {p q:L} {x:Value} (ht:ti P t=some i) (hk:i.kd = .struct) (hf:i.flds[f]?=some F) (h0:F.2.1≠0)
  (hp:aY w μ h p x) (hq:mT h F.1 p=some q) :
  ∃y,(Instr.fieldAt t x f).run P w = .ok y w∧aY w μ h q y∧y.oneCell'=true:=by
 obtain⟨I,d,h1,h2,h3,h4,h5,h6,h7,h8,_⟩:=fE ht;obtain⟨fs,hd⟩:=zn2 (h7▸hk);obtain⟨FF,hF1,hF2⟩:=zm8 (h8 fs hd) hf;obtain⟨IF,dF,hF3,hF4,hF5⟩:=zm9 hF2;subst hF5;have hrun:∀ad:Addr,(Instr.fieldAt t (.pointer (some ad)) f).run P w = .ok (.pointer (some (ad.add FF.offset))) w:=by
  intro ad;have hF1':fs[f]?=some FF:=by simpa using hF1
  have hs:(sizeOf FF.type).run P w = .ok IF.size w:=by simp[sizeOf,typeInfo,hF3,Result.andThen]
  simp only[Instr.fieldAt,Sem.run_bind,run_underlying h2,Result.andThen,hd,hF1',Instr.sureAddr,Sem.run_pure,fieldPlace,hs];simp only at h0;simp[h0]
 unfold mT at hq;split at hq
 ·split at hq
  ·rename_i cells hid;split at hq
   ·rename_i hle;cases hq;cases hp with
    |ptr hid' hoff hμ=>
     rw[hid]at hid';cases hid';refine⟨_,hrun _,?_,rfl⟩;rw[gW];exact .ptr hid hle hμ
    |ptrDead hid'=>rw[hid]at hid';cases hid'
   ·cases hq
  ·cases hq
 ·split at hq
  ·rename_i fz sz ver' xs hid;split at hq
   ·rename_i hcnd;obtain⟨rfl,hle⟩:=hcnd;cases hq;cases hp with
    |ept hid' hi hj hμ=>
     rw[hid]at hid';cases hid';refine⟨_,hrun _,?_,rfl⟩;rw[gW,kD5];exact .ept hid hi hle hμ
    |eptOld hid' hv=>rw[hid]at hid';cases hid';omega
    |eptDead hid'=>rw[hid]at hid';cases hid'
   ·cases hq
  ·cases hq
 ·cases hq;cases hp with
  |@ref cells b off vs hb hlt hc hd'=>
   refine⟨_,hrun _,?_,rfl⟩;rw[gW];refine .ref (vs:=fun j=>vs (FF.offset+j)) hb hlt (fun j x hj=>?_) (fun j x hj=>?_)
   ·rw[kv4]at hj;rw[kD5];exact hc _ _ hj
   ·rw[kv4]at hj;exact hd' _ _ hj
 ·cases hq
theorem jm7 {i:TI} {t:TypeId} {iE:EI} {k:IntKind} {n:Int} {p q:L} {x:Value} (ht:ti P t=some i) (hE:i.el=some iE)
  (hp:aY w μ h p x) (hq:kR h iE.size n p=some q):∃y,(Instr.indexAt t x (.int k n)).run P w = .ok y w∧aY w μ h q y∧y.oneCell'=true:=by
 obtain⟨I,d,h1,h2,h3,h4,h5,h6,h7,h8,h9,h10,_⟩:=fE ht;obtain⟨e,rfl⟩:=h10 (by rw[hE];rfl);have hE':iU P e=some iE:=by rw[←h9 e rfl];exact hE
 have hrun:∀(ad:Addr) (len cap:Nat),0≤n→n<len→(Instr.indexAt t (.slice (some ad) len cap) (.int k n)).run P w = .ok (.pointer (some (ad.add (n.toNat*iE.size)))) w:=by
  intro ad len cap h0 hlt;have he:P.elem t=e:=by simp[Program.elem,h2]
  rw[run_indexAt_slice w t ad len cap k n (by rw[he];exact h2),if_pos ⟨h0,hlt⟩,he,oP hE'];rfl
 unfold kR at hq;split at hq
 ·rename_i xs;split at hq
  ·rename_i h0;split at hq
   ·rename_i el hel;split at hq
    ·rename_i hlen;cases hq;cases hp with
     |d hp=>
      cases hp with
      |sl0 a cap=>simp at hel
      |sl sz xs b off cap vs hne hb hlt hcap hl hc hd'=>
       have hlt':n.toNat<xs.length:=(kp9.1 hel).1;refine⟨_,hrun _ _ _ h0 (by omega),?_,rfl⟩;have hsz:sz=iE.size:=by rw[←hl _ _ hel,hlen]
       rw[gW,←hsz];exact .ref (vs:=fun j=>vs n.toNat j) hb hlt (fun j x hj=>by rw[kD5];exact hc _ _ _ _ hel hj) (fun j x hj=>hd' _ _ _ _ hel hj)
    ·cases hq
   ·cases hq
  ·cases hq
 ·rename_i id ver len;split at hq
  ·rename_i fz sz ver' xs hid;split at hq
   ·rename_i hcnd;obtain⟨rfl,hsz,h0,hlt⟩:=hcnd;cases hq;cases hp with
    |own hid' hl hμ hcap hb hcs=>
     rw[hid]at hid';cases hid';refine⟨_,hrun _ _ _ h0 hlt,?_,rfl⟩;rw[gW,kt2,←hsz];exact .ept hid (by omega) (kt1 _) hμ
    |ownNil hid' hμ=>omega
    |ownOld hid' hv=>rw[hid]at hid';cases hid';omega
    |ownDead hid'=>rw[hid]at hid';cases hid'
   ·cases hq
  ·cases hq
 ·rename_i id off len;split at hq
  ·rename_i cells hid;split at hq
   ·rename_i hcnd;obtain⟨hsz,h0,hlt⟩:=hcnd;cases hq;cases hp with
    |bsl hid' hl hμ hcap hb hcs=>
     rw[hid]at hid';cases hid';refine⟨_,hrun _ _ _ h0 hlt,?_,rfl⟩;rw[gW,hsz,Nat.mul_one];exact .ptr hid (by omega) hμ
    |bslDead hid'=>rw[hid]at hid';cases hid'
   ·cases hq
  ·cases hq
 ·rename_i id ver off len;split at hq
  ·rename_i fz sz ver' xs hid;split at hq
   ·rename_i hcnd;obtain⟨rfl,hsz,h0,hlt⟩:=hcnd;cases hq;cases hp with
    |osl hid' hl hμ hcap hb hcs=>
     rw[hid]at hid';cases hid';refine⟨_,hrun _ _ _ h0 hlt,?_,rfl⟩;rw[gW,←hsz,←Nat.add_mul];exact .ept hid (by omega) (kt1 _) hμ
    |oslOld hid' hv=>rw[hid]at hid';cases hid';omega
    |oslDead hid'=>rw[hid]at hid';cases hid'
   ·cases hq
  ·cases hq
 ·cases hq
structure xE (w w':World) (g:Nat) (cs:Array Value) (t:TypeId):Prop where
 os:w'.os=w.os
 tape:w'.tape=w.tape
 output:w'.output=w.output
 size:w'.heap.size=w.heap.size
 other:∀k,k≠g→w'.heap[k]?=w.heap[k]?
 row:w'.heap[g]?=some (.cells cs t (0,0))
theorem xF (g o:Nat) (t:TypeId):∀(vs:List Value) (i:Nat) (cur:Array Value) (w:World),w.heap[g]?=some (.cells cur t (0,0))→o+i+vs.length≤cur.size→(∀v∈vs,v.oneCell'=true)→
  ∃w' cs',(storeCells ⟨g,o,none⟩ vs i).run P w = .ok () w'∧xE w w' g cs' t∧cs'.size=cur.size∧∀j,cs'[j]?=if o+i≤j∧j<o+i+vs.length then vs[j-(o+i)]? else cur[j]?
 |[],i,cur,w,hg,hl,_=>by
  refine⟨w,cur,rfl,⟨rfl,rfl,rfl,rfl,fun _ _=>rfl,hg⟩,rfl,fun j=>?_⟩;rw[if_neg (by simp)]
 |v::rest,i,cur,w,hg,hl,h1=>by
  simp only[kr4]at hl;have hi:o+i<cur.size:=by omega
  have hcell:w.cell? ⟨g,o+i,none⟩=some cur[o+i]:=by simp[World.cell?,hg,hi]
  have hfro:w.frozen? ⟨g,o+i,none⟩=false:=by simp[World.frozen?,hg]
  have hst:(store ((⟨g,o,none⟩:Addr).add i) v).run P w = .ok () (w.setCell ⟨g,o+i,none⟩ v):=by
   rw[gW,run_store P w _ v _ (h1 v (by simp)),hcell];simp[hfro]
  have hg':(w.setCell ⟨g,o+i,none⟩ v).heap[g]?=some (.cells (cur.setIfInBounds (o+i) v) t (0,0)):=by
   simp only[World.setCell,Array.getElem?_modify,if_true,hg,Option.map_some];rfl
  obtain⟨w',cs',hr,hrow,hsz,hall⟩:=xF g o t rest (i+1) (cur.setIfInBounds (o+i) v) _ hg' (by simp;omega) (fun x hx=>h1 x (by simp[hx]));refine⟨w',cs',?_,⟨hrow.os,hrow.tape,hrow.output,by rw[hrow.size];simp,fun k hk=>?_,hrow.row⟩,by rw[hsz];simp,fun j=>?_⟩
  ·simp only[storeCells,Sem.run_bind,hst,Result.andThen];exact hr
  ·rw[hrow.other k hk];exact Go.RowKit.Below.heap_setCell _ _ _ _ hk
  ·rw[hall j];simp only[kr4];by_cases h1:o+(i+1)≤j∧j<o+(i+1)+rest.length
   ·rw[if_pos h1,if_pos (by omega),show j-(o+i)=(j-(o+(i+1)))+1 by omega,List.getElem?_cons_succ]
   ·rw[if_neg h1];by_cases h2:j=o+i
    ·subst h2;rw[if_pos (by omega)];simp[hi]
    ·rw[if_neg (by omega),Array.getElem?_setIfInBounds_ne (by omega)]
theorem iH {h:aB} {id id':Nat} {o o':aI} (hg:(h.set id o)[id']?=some o'):(id'=id∧o'=o)∨(id'≠id∧h[id']?=some o'):=by
 rw[ky5]at hg;split at hg
 ·rename_i e;split at hg
  ·cases hg;exact .inl ⟨e.symm,rfl⟩
  ·cases hg
 ·rename_i e;exact .inr ⟨fun e'=>e e'.symm,hg⟩
def lJ (o o':aI):Prop:=match o,o' with
 |.bx ty cells,.bx ty' cells'=>ty'=ty∧cells'.length=cells.length
 |.ar ty fz sz ver xs,.ar ty' fz' sz' ver' xs'=>ty'=ty∧fz'=fz∧sz'=sz∧ver'=ver∧xs'.length=xs.length
 |_,_=>False
theorem Good.row {w':World} {id b:Nat} {o o':aI} {cs cs':Array Value} {t:TypeId} (hid:h[id]?=some o) (hl:o.live=true) (hf:lJ o o') (hμ:μ id=some b) (hw:w.heap[b]?=some (.cells cs t (0,0)))
  (hr:xE w w' b cs' t) (hsz:cs'.size=cs.size):Good w μ h w' μ (h.set id o') where
 os:=hr.os
 tape:=hr.tape
 output:=hr.output
 size:=kJ8 hr.size.symm
 out:=rfl
 block k hk hm:=hr.other k (fun e=>hm ⟨id,o,hid,hl,e▸hμ⟩)
 shape k c T fr hk:=by
  by_cases e:k=b
  ·subst e;rw[hw]at hk;cases hk;exact⟨cs',_,hr.row,hsz⟩
  ·exact⟨c,_,(hr.other k e).trans hk,rfl⟩
 fresh k hm:=by
  obtain⟨id',o1,h1,h2,h3⟩:=hm;rcases iH h1 with⟨rfl,rfl⟩|⟨hne,h1⟩
  ·exact .inl ⟨id',o,hid,hl,h3⟩
  ·exact .inl ⟨id',o1,h1,h2,h3⟩
 len:=by simp
 boxes id' ty cells hb:=by
  by_cases e:id'=id
  ·subst e;rw[hid]at hb;cases hb;cases o' with
   |bx ty' cells'=>exact .inr ⟨cells',ty',by simp[(kp9.1 hid).1],hf.2,rfl⟩
   |_=>exact hf.elim
  ·exact .inr ⟨cells,ty,by rw[ku5 (Ne.symm e)];exact hb,rfl,rfl⟩
 arrs id' ty fz sz ver xs hb:=by
  by_cases e:id'=id
  ·subst e;rw[hid]at hb;cases hb;cases o' with
   |ar ty' fz' sz' ver' xs'=>obtain⟨e0,e1,e2,e3,e4⟩:=hf;exact .inr ⟨fz',sz',ver',xs',ty',by simp[(kp9.1 hid).1],.inl ⟨e3,e2,e4,rfl⟩⟩
   |_=>exact hf.elim
  ·exact .inr ⟨fz,sz,ver,xs,ty,by rw[ku5 (Ne.symm e)];exact hb,.inl ⟨rfl,rfl,rfl,rfl⟩⟩
 deads id' hb:=by
  by_cases e:id'=id
  ·subst e;rw[hid]at hb;cases hb;cases hl
  ·rw[ku5 (Ne.symm e)];exact hb
theorem lJ.there {o o':aI} (h:lJ o o'):o.there=true∧o'.there=true:=by
 cases o<;>cases o'<;>first|exact⟨rfl,rfl⟩|exact h.elim
theorem aR.row {w':World} {id b:Nat} {o o':aI} {cs cs':Array Value} {t:TypeId} (H:aR w μ h) (hid:h[id]?=some o) (hl:o.live=true) (hf:lJ o o') (hμ:μ id=some b) (hw:w.heap[b]?=some (.cells cs t (0,0)))
  (hr:xE w w' b cs' t) (hsz:cs'.size=cs.size) (hnew:xC w' μ (h.set id o') cs' o'):aR w' μ (h.set id o'):=by
 have g:=Good.row hid hl hf hμ hw hr hsz;refine⟨?_,?_,?_,?_,fun b hb=>by rw[hr.size];exact H.old b hb,?_,H.tabs g⟩
 ·intro id' ty cells hid';rcases iH hid' with⟨rfl,rfl⟩|⟨hne,hid'⟩
  ·exact⟨b,cs',t,hμ,hr.row,hnew.1,hnew.2.1,hnew.2.2⟩
  ·obtain⟨b',c,T,h1,h2,h3,h4,h5⟩:=H.box _ _ hid';have hb:b'≠b:=fun e=>hne (H.apart id id' _ _ b hid hid' hl rfl hμ (e▸h1)).symm;exact⟨b',c,T,h1,(hr.other _ hb).trans h2,h3,h4,fun j l v hj hv=>(h5 j l v hj hv).good g⟩
 ·intro id' ty fz sz ver xs hid';rcases iH hid' with⟨rfl,rfl⟩|⟨hne,hid'⟩
  ·exact .inr ⟨b,cs',t,hμ,hr.row,hnew.1,hnew.2.1,hnew.2.2.1,hnew.2.2.2⟩
  ·rcases H.arr _ _ _ _ _ hid' with hn|⟨b',c,T,h1,h2,h3,h4,h5,h6⟩
   ·exact .inl hn
   ·have hb:b'≠b:=fun e=>hne (H.apart id id' _ _ b hid hid' hl rfl hμ (e▸h1)).symm;exact .inr ⟨b',c,T,h1,(hr.other _ hb).trans h2,h3,h4,h5,fun i j e x hi hj=>let ⟨v,a,b⟩:=h6 i j e x hi hj;⟨v,a,b.good g⟩⟩
 ·intro i j o1 o2 k hi hj t1 t2 m1 m2;rcases iH hi with⟨e1,_⟩|⟨hne,hi1⟩<;>rcases iH hj with⟨e2,_⟩|⟨hne',hj1⟩
  ·rw[e1,e2]
  ·subst e1;exact H.apart _ _ _ _ k hid hj1 hl t2 m1 m2
  ·subst e2;exact H.apart _ _ _ _ k hi1 hid t1 hf.there.1 m1 m2
  ·exact H.apart _ _ _ _ k hi1 hj1 t1 t2 m1 m2
 ·intro i o1 k hi t1 m1;rcases iH hi with⟨e1,_⟩|⟨hne,hi1⟩
  ·subst e1;exact H.off _ _ _ hid hf.there.1 m1
  ·exact H.off _ _ _ hi1 t1 m1
 ·intro i o1 k hi m1;rcases iH hi with⟨e1,e2⟩|⟨hne,hi1⟩
  ·subst e1;subst e2;have h0:=(H.ty _ _ _ hid m1).good g;unfold lJ at hf;split at hf
   ·obtain⟨rfl,e⟩:=hf;unfold aI.tyOk at h0 ⊢;split
    ·rename_i heq;cases heq;simpa[e]using h0
    ·rename_i heq;cases heq
    ·trivial
   ·obtain⟨rfl,_⟩:=hf;unfold aI.tyOk at h0 ⊢;split
    ·rename_i heq;cases heq
    ·rename_i heq;cases heq;exact h0
    ·trivial
   ·exact hf.elim
  ·exact(H.ty _ _ _ hi1 m1).good g
theorem zn3 {α:Type} (cs:List α) (off:Nat) (vs:List α) (hle:off+vs.length≤cs.length) (j:Nat):(mB cs off vs)[j]?=if off≤j∧j<off+vs.length then vs[j-off]? else cs[j]?:=by
 unfold mB;have ht:(cs.take off).length=off:=by simp;omega
 rw[List.append_assoc,kB3];split
 ·rename_i h1;rw[ht]at h1;rw[if_neg (by omega),ks5 h1]
 ·rename_i h1;rw[ht]at h1 ⊢;rw[kB3];split
  ·rename_i h2;rw[if_pos (by omega)]
  ·rename_i h2;rw[if_neg (by omega),kv4]
   congr 1;omega
theorem uR {α:Type} (cs:List α) (off:Nat) (vs:List α) (hle:off+vs.length≤cs.length):(mB cs off vs).length=cs.length:=by
 simp[mB];omega
theorem xG {h:aB} {id k:Nat}:(fzOne h id)[k]?=if k=id then (h[k]?).map aI.freeze else h[k]?:=by
 unfold fzOne;split
 ·rename_i o ho;rw[ky5];by_cases e:id=k
  ·subst e;rw[if_pos rfl,if_pos (kp9.1 ho).1,if_pos rfl,ho];rfl
  ·rw[if_neg e,if_neg (Ne.symm e)]
 ·rename_i ho;by_cases e:k=id
  ·subst e;rw[if_pos rfl,ho];rfl
  ·rw[if_neg e]
theorem sP {h:aB} {id k:Nat} {o:aI} (hk:(fzOne h id)[k]?=some o):∃o0,h[k]?=some o0∧(o=o0∨o=o0.freeze):=by
 rw[xG]at hk;split at hk
 ·cases hh:h[k]? with
  |none=>simp[hh]at hk
  |some o0=>simp[hh]at hk;exact⟨o0,rfl,.inr hk.symm⟩
 ·exact⟨o,hk,.inl rfl⟩
theorem ko5 (w:World) (μ:Pl) (h:aB) (id:Nat):Good w μ h w μ (fzOne h id) where
 os:=rfl
 tape:=rfl
 output:=rfl
 size:=ks0 _
 out:=rfl
 block _ _ _:=rfl
 shape _ cs _ _ hb:=⟨cs,_,hb,rfl⟩
 fresh b hm:=by
  obtain⟨k,o,h1,h2,h3⟩:=hm;obtain⟨o0,h0,e|e⟩:=sP h1
  ·subst e;exact .inl ⟨k,o,h0,h2,h3⟩
  ·subst e;cases o0 with
   |bx ty cells=>exact .inl ⟨k,_,h0,rfl,h3⟩
   |ar ty fz sz ver xs=>cases h2
   |dead=>cases h2
 len:=by unfold Vt.fzOne;split<;>simp
 boxes k ty cells hb:=.inr ⟨cells,ty,by rw[xG,hb];split<;>rfl,rfl,rfl⟩
 arrs k ty fz sz ver xs hb:=.inr (by
  rw[xG,hb];split
  ·exact⟨true,sz,ver,xs,ty,rfl,.inl ⟨rfl,rfl,rfl,rfl⟩⟩
  ·exact⟨fz,sz,ver,xs,ty,rfl,.inl ⟨rfl,rfl,rfl,rfl⟩⟩)
 deads k hb:=by rw[xG,hb];split<;>rfl
theorem aR.fzOne (H:aR w μ h) (id:Nat):aR w μ (Vt.fzOne h id):=by
 have g:=ko5 w μ h id;have th:∀{o0 o:aI},(o=o0∨o=o0.freeze)→o.there=true→o0.there=true:=by
  intro o0 o e t;rcases e with e|e
  ·rw[←e];exact t
  ·subst e;cases o0<;>first|rfl|exact t
 refine⟨?_,?_,?_,?_,H.old,?_,H.tabs g⟩
 ·intro k ty cells hk;obtain⟨o0,h0,e|e⟩:=sP hk
  ·subst e;obtain⟨b,cs,T,h1,h2,h3,h4,h5⟩:=H.box _ _ h0;exact⟨b,cs,T,h1,h2,h3,h4,fun j l v hj hv=>(h5 j l v hj hv).good g⟩
  ·cases o0 with
   |bx ty cells'=>
    cases e;obtain⟨b,cs,T,h1,h2,h3,h4,h5⟩:=H.box _ _ h0;exact⟨b,cs,T,h1,h2,h3,h4,fun j l v hj hv=>(h5 j l v hj hv).good g⟩
   |_=>cases e
 ·intro k ty fz sz ver xs hk;have:∃fz',h[k]?=some (.ar ty fz' sz ver xs):=by
   obtain⟨o0,h0,e|e⟩:=sP hk
   ·exact⟨fz,e▸h0⟩
   ·cases o0 with
    |ar ty' fz' sz' ver' xs'=>cases e;exact⟨fz',h0⟩
    |_=>cases e
  obtain⟨fz',h0⟩:=this;rcases H.arr _ _ _ _ _ h0 with hn|⟨b,cs,T,h1,h2,h3,h4,h5,h6⟩
  ·exact .inl hn
  ·exact .inr ⟨b,cs,T,h1,h2,h3,h4,h5,fun i j e x hi hj=>let ⟨v,a,b⟩:=h6 i j e x hi hj;⟨v,a,b.good g⟩⟩
 ·intro i j o1 o2 k hi hj t1 t2 m1 m2;obtain⟨p1,h1,e1⟩:=sP hi;obtain⟨p2,h2,e2⟩:=sP hj;refine H.apart _ _ _ _ k h1 h2 ?_ (th e2 t2) m1 m2;rcases e1 with e1|e1
  ·rw[←e1];exact t1
  ·subst e1;cases p1<;>first|exact t1|cases t1
 ·intro i o1 k hi t1 m1;obtain⟨p1,h1,e1⟩:=sP hi;exact H.off _ _ _ h1 (th e1 t1) m1
 ·intro i o1 k hi m1;obtain⟨p1,h1,e1⟩:=sP hi;have h0:=H.ty _ _ _ h1 m1;rcases e1 with e1|e1
  ·rw[e1];exact h0
  ·subst e1;cases p1 with
   |ar t _ _ _ _=>cases t<;>exact h0
   |_=>exact h0
theorem jm8 (H:aR w μ h) (l:L):aR w μ (fzL h l)∧Good w μ h w μ (fzL h l):=by
 unfold fzL;split
 ·exact⟨H.fzOne _,ko5 _ _ _ _⟩
 ·exact⟨H,kn9 _ _ _⟩
theorem zn4:∀(ls:List L) {h:aB},aR w μ h→aR w μ (lH h ls)∧Good w μ h w μ (lH h ls)
 |[],_,H=>⟨H,kn9 _ _ _⟩
 |l::r,_,H=>by
  obtain⟨H1,g1⟩:=jm8 H l;obtain⟨H2,g2⟩:=zn4 r H1;exact⟨H2,g1.trans g2⟩
theorem zQ7 (H:aR w μ h) {id ver len:Nat} {ty:Option TypeId} {fz:Bool} {sz:Nat} {xs:List (List D)} {v:Value} {M:Nat→Prop} (hid:h[id]?=some (.ar ty fz sz ver xs)) (hl:aY w μ h (.own id ver len) v)
  (hM:∀b,M b→Mut μ h b) (hn:∀b,μ id=some b→¬M b):cM w M (.sl (xs.take len)) v:=by
 cases hl with
 |@own _ _ _ _ _ _ _ _ b0 cap0 cs0 T0 hid' hlen hμ hcap hb hcs=>
  rw[hid]at hid';cases hid';rcases H.arr _ _ _ _ _ hid with⟨hn',_⟩|⟨b,cs,T,h1,h2,h3,h4,h5,h6⟩
  ·rw[hμ]at hn';cases hn'
  ·rw[hμ]at h1;cases h1;have hlt:=(kt0.1 h2).1;have hlen':(xs.take len).length=len:=by simp;omega
   cases hxs:xs.take len with
   |nil=>
    have hl0:len=0:=by rw[hxs]at hlen';exact hlen'.symm
    subst hl0;exact .sl0 _ _
   |cons e0 r0=>
    rw[←hxs];have hget:∀{i:Nat} {e:List D},(xs.take len)[i]?=some e→xs[i]?=some e:=by
     intro i e hi;have:i<len:=by have:=(kp9.1 hi).1;omega
     rwa [ks5 this]at hi
    have:=cM.sl (w:=w) (M:=M) sz (xs.take len) _ 0 _ (fun i j=>cs.getD (i*sz+j) undef) (by rw[hxs];simp) (hn _ hμ) hlt (by rw[hlen'];exact hcap)
     (fun i e hi=>h5 i e (hget hi))
     (fun i j e x hi hj=>by
      obtain⟨u,hu,_⟩:=h6 i j e x (hget hi) hj;rw[kt2,pI h2,hu];simp[kx1,hu])
     (fun i j e x hi hj=>by
      obtain⟨u,hu,hd⟩:=h6 i j e x (hget hi) hj;have hd':cM w M x u:=hd.step (fun _ _ _=>rfl) (fun b hb=>.inl (hM b hb));simpa[kx1,hu]using hd')
    rw[hlen']at this;exact this
 |ownNil hid' hμ=>
  simp;exact .sl0 _ _
 |ownOld hid' hv=>rw[hid]at hid';cases hid';omega
 |ownDead hid'=>rw[hid]at hid';cases hid'
theorem jm9 (H:aR w μ h) {l:L} {x:D} {v:Value} (hl:aY w μ h l v) (hx:toD h l=some x):cM w (Mut μ h) x v:=by
 unfold toD at hx;split at hx
 ·cases hx;cases hl with|d hd=>exact hd
 ·cases hx;cases hl;exact .sl0 _ _
 ·rename_i id ver len;split at hx
  ·rename_i sz ver' xs hid;split at hx
   ·rename_i e;subst e;cases hx;refine zQ7 H hid hl (fun _ hb=>hb) (fun b hμ=>?_);rintro(⟨k,o,k1,k2,k3⟩|hX)
    ·have e:=H.apart _ _ _ _ _ k1 hid k2 rfl k3 hμ;subst e;rw[hid]at k1;cases k1;cases k2
    ·exact H.off _ _ _ hid rfl hμ hX
   ·cases hx
  ·cases hx
 ·cases hx
theorem zn5 (H:aR w μ h):∀{ls:List L} {ds:List D},kQ h ls=some ds→ds.length=ls.length∧∀(j:Nat) (x:D) (l:L) (v:Value),ds[j]?=some x→ls[j]?=some l→aY w μ h l v→cM w (Mut μ h) x v
 |[],ds,hd=>by cases hd;exact⟨rfl,by simp⟩
 |l::r,ds,hd=>by
  unfold kQ at hd;split at hd
  ·rename_i x xs hx hxs;cases hd;obtain⟨h1,h2⟩:=zn5 H hxs;refine⟨by simp[h1],?_⟩;intro j y l' v hj hl hr;cases j with
   |zero=>simp at hj hl;subst hj;subst hl;exact jm9 H hr hx
   |succ j=>exact h2 j y l' v (by simpa using hj) (by simpa using hl) hr
  ·cases hd
set_option linter.unusedSectionVars false
set_option linter.unusedVariables false
variable [cJ]
variable {P:Program} {w:World} {μ:Pl} {h:aB} {T:Sl} {a:Act}
theorem zQ8 {t:TypeId} {i:TI} (ht:ti P t=some i) {x:Value} (hs:x.cells.size=i.size) (g o:Nat) (cur:Array Value) (tt:TypeId) (hg:w.heap[g]?=some (.cells cur tt (0,0))) (hle:o+x.cells.size≤cur.size) (h1:∀v∈x.cells,v.oneCell'=true) :
  ∃w' cs',(storeVar t ⟨g,o,none⟩ x).run P w = .ok () w'∧xE w w' g cs' tt∧cs'.size=cur.size∧∀j,cs'[j]?=if o≤j∧j<o+x.cells.size then x.cells[j-o]? else cur[j]?:=by
 obtain⟨w',cs',hr,hrow,hsz,hall⟩:=xF (P:=P) g o tt x.cells.toList 0 cur w hg (by simpa using hle) (fun v hv=>h1 v (by simpa using hv));refine⟨w',cs',?_,hrow,hsz,fun j=>?_⟩
 ·simp only[storeVar,Sem.run_bind,zQ3 ht,Result.andThen,hs,ne_eq,not_true_eq_false,if_false];exact hr
 ·rw[hall j];simp
theorem aZ.cells' {v:V} {x:Value} {ls:List L} (hx:aZ w μ h v x) (hv:iG v=some ls) (hk:jR v=true):ls.length=x.cells.size∧(∀c∈x.cells,c.oneCell'=true)∧∀(j:Nat) (l:L) (c:Value),ls[j]?=some l→x.cells[j]?=some c→aY w μ h l c:=by
 cases hx with
 |one ho hl=>exact(aZ.one ho hl).cells hv (.inr ho)
 |top=>cases hk
 |agg hl hc h1=>cases hv;exact⟨hl,h1,hc⟩
 |tup=>cases hv
theorem jn0 {t:TypeId} {i:TI} (ht:ti P t=some i) (H:aR w μ h) {p:L} {y:Value} {v:V} {x:Value} {h':aB} (hk:jR v=true)
  (hp:aY w μ h p y) (hx:aZ w μ h v x) (hs:sO h i p v=some h') :
  ∃w',(Instr.storeAt t y x).run P w = .ok () w'∧aR w' μ h'∧Good w μ h w' μ h':=by
 unfold sO at hs;split at hs
 ·cases hs
 ·rename_i vs hv;obtain⟨e1,e2,e3⟩:=hx.cells' hv hk;split at hs
  ·rename_i hsz;split at hs
   ·rename_i id off;split at hs
    ·rename_i cells hid;split at hs
     ·rename_i hle;cases hs;cases hp with
      |ptrDead hid'=>rw[hid]at hid';cases hid'
      |ptr hid' hoff hμ=>
       rw[hid]at hid';cases hid';obtain⟨b,cs,T,hb,hw,hcs,h1,hl⟩:=H.box _ _ hid;rw[hμ]at hb;cases hb;obtain⟨w',cs',hr,hrow,hsz',hall⟩:=zQ8 (P:=P) (w:=w) ht (x:=x) (by omega) _ off cs T hw (by omega) e2;have g:Good w μ h w' μ (h.set id (.bx _ (mB cells off vs))):=Good.row hid rfl ⟨rfl,by rw[uR _ _ _ hle]⟩ hμ hw hrow hsz';refine⟨w',by simp only[Instr.storeAt,Instr.sureAddr,Sem.run_bind,Sem.run_pure,Result.andThen,hr],?_,g⟩;refine H.row hid rfl ⟨rfl,by rw[uR _ _ _ hle]⟩ hμ hw hrow hsz' ⟨by rw[uR _ _ _ hle];omega,?_,?_⟩
       ·intro u hu;obtain⟨j,hj,rfl⟩:=kz6 hu;have:=hall j;rw[ks6 hj]at this;split at this
        ·exact e2 _ (kA0 this.symm)
        ·exact h1 _ (kA0 this.symm)
       ·intro j l u hj hu;rw[zn3 _ _ _ hle]at hj;rw[hall j,←e1]at hu;split at hj
        ·rename_i hc;rw[if_pos hc]at hu;exact(e3 _ _ _ hj hu).good g
        ·rename_i hc;rw[if_neg hc]at hu;exact(hl _ _ _ hj hu).good g
     ·cases hs
    ·cases hs
   ·rename_i id ver k j;split at hs
    ·rename_i ds ty sz ver' xs hds hid;split at hs
     ·rename_i ev;subst ev;split at hs
      ·rename_i e he;split at hs
       ·rename_i hle;cases hs;obtain⟨H1,g1⟩:=zn4 vs H;obtain⟨d1,d2⟩:=zn5 H1 hds;have hp1:=hp.good g1;cases hp1 with
        |ept hid' hk' hj' hμ=>
         rw[hid]at hid';cases hid';rcases H1.arr _ _ _ _ _ hid with⟨hn,_⟩|⟨b,cs,T,hb,hw,hcs,h1,hlen,hl⟩
         ·rw[hμ]at hn;cases hn
         rw[hμ]at hb;cases hb;have hes:=hlen _ _ he;have hkl:=(kp9.1 he).1;have hbound:k*sz+j+x.cells.size≤cs.size:=by
          have:k*sz+sz≤xs.length*sz:=by rw[←kD3];exact kv6 _ hkl
          omega
         obtain⟨w',cs',hr,hrow,hsz',hall⟩:=zQ8 (P:=P) (w:=w) ht (x:=x) (by omega) _ (k*sz+j) cs T hw hbound e2;have hfit:lJ (.ar ty false sz ver' xs) (.ar ty false sz ver' (xs.set k (mB e j ds))):=⟨rfl,rfl,rfl,rfl,by simp⟩;have g2:Good w μ (lH h vs) w' μ ((lH h vs).set id (.ar ty false sz ver' (xs.set k (mB e j ds)))):=Good.row hid rfl hfit hμ hw hrow hsz';refine⟨w',by simp only[Instr.storeAt,Instr.sureAddr,Sem.run_bind,Sem.run_pure,Result.andThen,hr],?_,g1.trans g2⟩;refine H1.row hid rfl hfit hμ hw hrow hsz' ⟨by simp;omega,?_,?_,?_⟩
         ·intro u hu;obtain⟨q,hq,rfl⟩:=kz6 hu;have:=hall q;rw[ks6 hq]at this;split at this
          ·exact e2 _ (kA0 this.symm)
          ·exact h1 _ (kA0 this.symm)
         ·intro i' e' hi';rw[ky5]at hi';by_cases hik:k=i'
          ·rw[if_pos hik,if_pos hkl]at hi';cases hi';rw[uR _ _ _ hle];exact hes
          ·rw[if_neg hik]at hi';exact hlen _ _ hi'
         ·intro i' j' e' x' hi' hj';have hi0:=hi';rw[ky5]at hi';have hjl:j'<sz:=by
           have:=(kp9.1 hj').1;by_cases hik:k=i'
           ·rw[if_pos hik,if_pos hkl]at hi';cases hi';rw[uR _ _ _ hle]at this;omega
           ·rw[if_neg hik]at hi';have:=hlen _ _ hi';omega
          by_cases hik:k=i'
          ·subst hik;rw[if_pos rfl,if_pos hkl]at hi';cases hi';rw[zn3 _ _ _ hle]at hj';rw[hall];split at hj'
           ·rename_i hc;rw[if_pos (by omega)];have hjx:j'-j<x.cells.size:=by omega
            refine⟨x.cells[j'-j],by rw[show k*sz+j'-(k*sz+j)=j'-j by omega,ks6 hjx],?_⟩;have hl':vs[j'-j]?=some vs[j'-j]:=kr1 (by omega);exact(d2 _ _ _ _ hj' hl' ((e3 _ _ _ hl' (ks6 hjx)).good g1)).good g2
           ·rename_i hc;rw[if_neg (by omega)];obtain⟨u,hu,hd⟩:=hl _ _ _ _ he hj';exact⟨u,hu,hd.good g2⟩
          ·rw[if_neg hik]at hi';obtain⟨u,hu,hd⟩:=hl _ _ _ _ hi' hj';refine⟨u,?_,hd.good g2⟩;rw[hall,if_neg,hu];rintro⟨a1,a2⟩;rcases Nat.lt_or_gt_of_ne hik with hlt|hgt
           ·have:k*sz+sz≤i'*sz:=by rw[←kD3];exact kv6 _ hlt
            omega
           ·have:i'*sz+sz≤k*sz:=by rw[←kD3];exact kv6 _ hgt
            omega
        |eptOld hid' hv'=>rw[hid]at hid';cases hid';omega
        |eptDead hid'=>rw[hid]at hid';cases hid'
       ·cases hs
      ·cases hs
     ·cases hs
    ·cases hs
   ·cases hs
  ·cases hs
end Go.Vt
