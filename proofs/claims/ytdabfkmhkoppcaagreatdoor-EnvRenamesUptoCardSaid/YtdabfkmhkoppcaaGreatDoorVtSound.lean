import Derived.Test.YtdabfkmhkoppcaaGreatDoorVtOps
import Derived.Laws.Cells
import Derived.Laws.Rows
import Derived.Laws.Tables
import Derived.WalkKit
set_option linter.all false
open Array renaming getD_eq_getD_getElem?→kl0,getElem?_eq_getElem→kg5,getElem?_eq_some_iff→kg7,getElem_of_mem→kn3,mem_of_getElem?→kn6
open List renaming getElem?_append_left→kf7,getElem?_append→ko9,getElem?_drop→kj1,getElem?_eq_getElem→ke7,getElem?_eq_none→km6,getElem?_eq_some_iff→kd6,getElem?_map→ke6,getElem?_set_ne→kh7,getElem?_set→km1,getElem?_take_of_lt→kg4,length_cons→kf6,range→kh4
open Nat renaming add_assoc→kr3,le_of_eq→kx3,le_refl→kf2,lt_of_lt_of_le→kr4,mul_le_mul_right→kj2,succ_mul→kr0,zero_add→kh8,zero_le→kg1
namespace Go.Vt
variable {P:Program} {w:World} {μ:Pl} {h:aB} {T:Sl} {a:Act}
def dL (w:World) (μ:Pl) (h:aB) (T:Sl) (a:Act):Prop:=∀i v,T.lookup i=some v→bF w μ h v (a.tmps.getD i undef)
theorem dL.good {w':World} {μ':Pl} {h':aB} (g:Good w μ h w' μ' h') (s:dL w μ h T a):dL w' μ' h' T a:=fun i v hi=>(s i v hi).good g
def dU (P:Program) (w:World) (μ:Pl) (h:aB) (m:Sem Next) (v:V) (h':aB):Prop:=
 ∃n w' μ' x,m.run P w = .ok n w'∧(n = .value x∨(n = .skip∧x=undef))∧aW w' μ' h'∧bF w' μ' h' v x∧Good w μ h w' μ' h'
theorem dU.same {m:Sem Next} {v:V} {x:Value} (H:aW w μ h) (hx:bF w μ h v x) (hr:m.run P w = .ok (.value x) w):dU P w μ h m v h:=
 ⟨_,w,μ,x,hr,.inl rfl,H,hx,kb7 _ _ _⟩
theorem fF {t:TypeId} {i:TI} (hi:ti P t=some i):∃I d,P.info? t=some I∧P.underlying t=some d∧i.size=I.size∧i.bytes=I.bytes∧i.agg=nQ d∧i.zero=I.zero.bind iT∧i.kd=oQ d∧
  (∀fs,d = .struct fs→rG P fs.toList=some i.flds)∧(∀e,d = .slice e→i.el=gW P e)∧(i.el.isSome=true→∃e,d = .slice e)∧(∀n e,d = .array n e→∃J dd,P.info? e=some J∧P.underlying e=some dd∧i.flds=(kh4 n).map fun k=>(k*J.size,J.size,nQ dd)):=by
 unfold ti at hi;split at hi
 ·rename_i I d h1 h2;split at hi
  ·rename_i fl hfl;cases hi;refine⟨I,d,h1,h2,rfl,rfl,rfl,rfl,rfl,?_,?_,?_,?_⟩
   ·rintro fs rfl;exact hfl
   ·rintro e rfl;rfl
   ·intro he;cases d<;>first|exact⟨_,rfl⟩|cases he
   ·rintro n e rfl;simp only[zI9]at hfl;split at hfl
    ·rename_i J dd g1 g2;cases hfl;exact⟨J,dd,g1,g2,rfl⟩
    ·cases hfl
  ·cases hi
 ·cases hi
theorem zJ2 {t:TypeId} {i:TI} (hi:ti P t=some i):(isAgg t).run P w = .ok i.agg w:=by
 obtain⟨I,d,h1,h2,h3,h4,h5,_⟩:=fF hi;simp only[isAgg,Sem.run_bind,run_underlying h2,Result.andThen,h5];cases d<;>rfl
theorem zJ3 {t:TypeId} {i:TI} (hi:ti P t=some i):(sizeOf t).run P w = .ok i.size w:=by
 obtain⟨I,d,h1,h2,h3,h4,h5,_⟩:=fF hi;simp[sizeOf,typeInfo,h1,h3,Result.andThen]
theorem oT {e:TypeId} {x:EI} (hi:gW P e=some x):∃I d,P.info? e=some I∧P.underlying e=some d∧x.size=I.size∧x.bytes=I.bytes∧x.zero=I.zero.bind iT∧x.agg=nQ d:=by
 unfold gW at hi;split at hi
 ·rename_i I d h1 h2;cases hi;exact⟨I,d,h1,h2,rfl,rfl,rfl,rfl⟩
 ·cases hi
theorem nR {e:TypeId} {x:EI} (hi:gW P e=some x):(sizeOf e).run P w = .ok x.size w:=by
 obtain⟨I,d,h1,h2,h3,_⟩:=oT hi;simp[sizeOf,typeInfo,h1,h3,Result.andThen]
theorem zi1:∀{fs:List Field} {fl:List (Nat×Nat×Bool)},rG P fs=some fl→∀{k:Nat} {x:Nat×Nat×Bool},fl[k]?=some x→∃F,fs[k]?=some F∧zJ P F=some x
 |[],fl,hf,k,x,hk=>by cases hf;simp at hk
 |f::r,fl,hf,k,x,hk=>by
  unfold rG at hf;split at hf
  ·rename_i y ys hy hys;cases hf;cases k with
   |zero=>simp at hk;subst hk;exact⟨f,rfl,hy⟩
   |succ k=>obtain⟨F,h1,h2⟩:=zi1 hys (k:=k) (by simpa using hk);exact⟨F,by simpa using h1,h2⟩
  ·cases hf
theorem zi2 {F:Field} {x:Nat×Nat×Bool} (hx:zJ P F=some x):∃I d,P.info? F.type=some I∧P.underlying F.type=some d∧x=(F.offset,I.size,nQ d):=by
 unfold zJ at hx;split at hx
 ·rename_i I d h1 h2;cases hx;exact⟨I,d,h1,h2,rfl⟩
 ·cases hx
theorem je5 {t:TypeId} {i:TI} {z:V} (hi:ti P t=some i) (hz:i.zero=some z):∃x,(zeroValue t).run P w = .ok x w∧iT x=some z:=by
 obtain⟨I,d,h1,h2,h3,h4,h5,h6,_⟩:=fF hi;rw[h6]at hz;cases hI:I.zero with
 |none=>simp[hI]at hz
 |some x=>
  refine⟨x,?_,by simpa[hI]using hz⟩;simp[zeroValue,typeInfo,h1,hI,Result.andThen]
theorem zK {x:Value} {l:L} (hx:nP x=some l):bE w μ h l x∧x.oneCell'=true:=by
 unfold nP at hx;split at hx<;>cases hx
 ·exact⟨.d (.bool _),rfl⟩
 ·exact⟨.d (.int _ _),rfl⟩
 ·exact⟨.d (.str _),rfl⟩
 ·exact⟨.nils,rfl⟩
 ·exact⟨.d .nilp,rfl⟩
 ·exact⟨.nilf,rfl⟩
 ·exact⟨.nili,rfl⟩
theorem zi3:∀{xs:List Value} {ls:List L},mT xs=some ls→ls.length=xs.length∧(∀v∈xs,v.oneCell'=true)∧∀(j:Nat) (l:L) (v:Value),ls[j]?=some l→xs[j]?=some v→bE w μ h l v
 |[],ls,hx=>by cases hx;exact⟨rfl,by simp,by simp⟩
 |x::xs,ls,hx=>by
  unfold mT at hx;split at hx
  ·rename_i l r hl hr;cases hx;obtain⟨h1,h2,h3⟩:=zi3 hr;obtain⟨h4,h5⟩:=zK (w:=w) (μ:=μ) (h:=h) hl;refine⟨by simp[h1],?_,?_⟩
   ·intro v hv;rcases List.mem_cons.1 hv with e|hv
    ·rw[e];exact h5
    ·exact h2 v hv
   ·intro j l' v hj hv;cases j with
    |zero=>simp at hj hv;subst hj;subst hv;exact h4
    |succ j=>exact h3 j l' v (by simpa using hj) (by simpa using hv)
  ·cases hx
theorem vO {x:Value} {v:V} (hx:iT x=some v):bF w μ h v x:=by
 unfold iT at hx;split at hx
 ·rename_i cs;cases hc:mT cs.toList with
  |none=>simp[hc]at hx
  |some ls=>
   simp[hc]at hx;subst hx;obtain⟨h1,h2,h3⟩:=zi3 (w:=w) (μ:=μ) (h:=h) hc;exact .agg (by simpa using h1) (fun j l v hj hv=>h3 j l v hj (by simpa using hv)) (fun v hv=>h2 v (by simpa using hv))
 ·cases hc:nP x with
  |none=>simp[hc]at hx
  |some l=>
   simp[hc]at hx;subst hx;obtain⟨h1,h2⟩:=zK (w:=w) (μ:=μ) (h:=h) hc;exact .one h2 h1
theorem bS (s:dL w μ h T a) {x:Operand} {v:V} (hx:opd T x=some v):bF w μ h v (a.eval x):=by
 cases x with
 |tmp t=>exact s t v hx
 |const c=>exact vO hx
 |func f=>cases hx;exact .one rfl (.fn rfl (by simp))
 |global g=>cases hx
theorem bF.cells {v:V} {x:Value} {ls:List L} (hx:bF w μ h v x) (hv:gJ v=some ls) (hn:ls≠[.any]∨x.oneCell'=true):ls.length=x.cells.size∧(∀c∈x.cells,c.oneCell'=true)∧∀(j:Nat) (l:L) (c:Value),ls[j]?=some l→x.cells[j]?=some c→bE w μ h l c:=by
 have one_cells:∀{x:Value},x.oneCell'=true→x.cells=#[x]:=by intro x hx;cases x<;>first|rfl|cases hx
 cases hx with
 |one ho hl=>
  cases hv;rw[one_cells ho];refine⟨rfl,by simpa using ho,?_⟩;intro j l c hj hc;cases j with
  |zero=>simp at hj hc;subst hj;subst hc;exact hl
  |succ j=>simp at hj
 |top=>
  cases hv;have ho:x.oneCell'=true:=by rcases hn with hn|hn;exact absurd rfl hn;exact hn
  rw[one_cells ho];refine⟨rfl,by simpa using ho,?_⟩;intro j l c hj hc;cases j with
  |zero=>simp at hj;subst hj;exact .any
  |succ j=>simp at hj
 |agg hl hc h1=>cases hv;exact⟨hl,h1,hc⟩
 |tup=>cases hv
theorem zi4 {i:TI} {ls:List L} {v:V} (hv:mkV i ls=some v) (ad:Addr) {t:TypeId} (ht:ti P t=some i)
  (hc:∀(j:Nat) (l:L),ls[j]?=some l→j<(if i.agg then i.size else 1)→∃x,w.cell? (ad.add j)=some x∧x.oneCell'=true∧bE w μ h l x) :
  ∃x,(loadVar t ad).run P w = .ok x w∧bF w μ h v x:=by
 unfold mkV at hv;by_cases hagg:i.agg=true
 ·simp only[hagg,if_true]at hv hc;split at hv
  ·rename_i hsz;cases hv;have hc':∀j:Nat,j<i.size→∃x:Value,w.cell? (ad.add j)=some x∧x.oneCell'=true∧∃l,ls[j]?=some l∧bE w μ h l x:=by
    intro j hj;obtain⟨x,h1,h2,h3⟩:=hc j (ls[j]'(by omega)) (ke7 (by omega)) hj;exact⟨x,h1,h2,_,ke7 (by omega),h3⟩
   let f:Nat→Value:=fun j=>if hj:j<i.size then (hc' j hj).choose else undef
   have hf:∀j,j<i.size→w.cell? (ad.add j)=some (f j)∧(f j).oneCell'=true∧∃l,ls[j]?=some l∧bE w μ h l (f j):=by
    intro j hj;have:=(hc' j hj).choose_spec;simp only[f,hj,dif_pos];exact this
   refine⟨.agg ((kh4 i.size).map f).toArray,?_,?_⟩
   ·simp only[loadVar,Sem.run_bind,zJ2 ht,Result.andThen,hagg,if_true,zJ3 ht,run_loadCells (P:=P) w ad i.size f (fun j hj=>(hf j hj).1),Sem.run_pure]
   ·refine .agg (by simp;omega) ?_ ?_
    ·intro j l x hj hx;have hjs:j<i.size:=by
      rcases Nat.lt_or_ge j i.size with hlt|hge
      ·exact hlt
      ·rw[km6 (by simp;omega)]at hj;cases hj
     have hx':x=f j:=by
      simp[hjs]at hx;exact hx.symm
     obtain⟨_,_,l',hl',hr⟩:=hf j hjs;rw[kg4 hjs]at hj;rw[hl']at hj;cases hj;rw[hx'];exact hr
    ·intro x hx;simp at hx;obtain⟨j,hj,rfl⟩:=hx;exact(hf j hj).2.1
  ·cases hv
 ·simp only[hagg]at hv hc;cases ls with
  |nil=>cases hv
  |cons l r=>
   cases hv;obtain⟨x,h1,h2,h3⟩:=hc 0 l rfl (by simp);have h1':w.cell? ad=some x:=by simpa[Addr.add]using h1
   refine⟨x,?_,.one h2 h3⟩;simp only[loadVar,Sem.run_bind,zJ2 ht,Result.andThen,hagg];simp[h1']
theorem fW (b o n:Nat):Addr.add ⟨b,o,none⟩ n=⟨b,o+n,none⟩:=by
 unfold Addr.add;split<;>simp_all
theorem oU {g:Nat} {cs:Array Value} {t:TypeId} {fr:Nat×Nat} (hg:w.heap[g]?=some (.cells cs t fr)) (i:Nat):w.cell? ⟨g,i,none⟩=cs[i]?:=by
 simp[World.cell?,hg]
theorem zJ4 {i:TI} {t:TypeId} {p:L} {v:V} {x:Value} (H:aW w μ h) (ht:ti P t=some i) (hp:bE w μ h p x) (hv:cI h i p=some v) :
  ∃y,(Instr.loadAt t x).run P w = .ok y w∧bF w μ h v y:=by
 unfold cI at hv;split at hv
 ·rename_i id off;split at hv
  ·rename_i cells hid;cases hp with
   |ptr hid' hoff hμ=>
    rw[hid]at hid';cases hid';obtain⟨b,cs,T,hb,hw,hsz,h1,hl⟩:=H.box _ _ hid;rw[hμ]at hb;cases hb;obtain⟨y,hy,hr⟩:=zi4 (P:=P) (w:=w) (μ:=μ) (h:=h) hv ⟨_,off,none⟩ ht (fun j l hj _=>by
     rw[kj1]at hj;have hlt:off+j<cs.size:=kr4 (kd6.1 hj).1 hsz;refine⟨cs[off+j],?_,h1 _ (Array.getElem_mem hlt),hl (off+j) l _ hj (kg5 hlt)⟩;rw[fW,oU hw,kg5 hlt])
    exact⟨y,by simp only[Instr.loadAt,Instr.sureAddr,Sem.run_bind,Sem.run_pure,Result.andThen,hy],hr⟩
   |ptrDead hid'=>rw[hid]at hid';cases hid'
  ·cases hv
 ·rename_i id ver k j;split at hv
  ·rename_i fz sz ver' xs hid;split at hv
   ·rename_i hver;subst hver;split at hv
    ·rename_i e he;cases hp with
     |ept hid' hk hj hμ=>
      rw[hid]at hid';cases hid';rcases H.arr _ _ _ _ _ hid with⟨hn,_⟩|⟨b,cs,T,hb,hw,hsz,h1,hlen,hl⟩
      ·rw[hμ]at hn;cases hn
      ·rw[hμ]at hb;cases hb;obtain⟨y,hy,hr⟩:=zi4 (P:=P) (w:=w) (μ:=μ) (h:=h) hv ⟨_,k*sz+j,none⟩ ht (fun q l hq _=>by
        rw[ke6,kj1]at hq;cases hx:e[j+q]? with
        |none=>simp[hx]at hq
        |some x=>
         simp[hx]at hq;subst hq;obtain⟨u,hu,hd⟩:=hl k (j+q) e x he hx;refine⟨u,?_,hd.oneCell,.d hd⟩;rw[fW,oU hw,←hu];congr 1;omega)
       exact⟨y,by simp only[Instr.loadAt,Instr.sureAddr,Sem.run_bind,Sem.run_pure,Result.andThen,hy],hr⟩
     |eptOld hid' hv'=>rw[hid]at hid';cases hid';omega
     |eptDead hid'=>rw[hid]at hid';cases hid'
    ·cases hv
   ·cases hv
  ·cases hv
 ·rename_i cells;cases hp with
  |ref hb hlt hc hd=>
   obtain⟨y,hy,hr⟩:=zi4 (P:=P) (w:=w) (μ:=μ) (h:=h) hv ⟨_,_,none⟩ ht (fun j l hj _=>by
    rw[ke6]at hj;cases hx:cells[j]? with
    |none=>simp[hx]at hj
    |some x=>
     simp[hx]at hj;subst hj;exact⟨_,by rw[fW];exact hc j x hx,(hd j x hx).oneCell,.d (hd j x hx)⟩)
   exact⟨y,by simp only[Instr.loadAt,Instr.sureAddr,Sem.run_bind,Sem.run_pure,Result.andThen,hy],hr⟩
 ·cases hv
def Pl.put (μ:Pl) (id:Nat) (b:Option Nat):Pl:={ at_:=fun k=>if k=id then b else μ k,X:=μ.X }
theorem kc1 (μ:Pl) (id:Nat) (b:Option Nat):μ.put id b id=b:=by simp[Pl.put]
theorem kc2 (μ:Pl) (id k:Nat) (b:Option Nat) (hk:k≠id):μ.put id b k=μ k:=by simp[Pl.put,hk]
theorem jW {h:aB} {o o':aN} {id:Nat} (hg:(h++[o])[id]?=some o'):(id<h.length∧h[id]?=some o')∨(id=h.length∧o'=o):=by
 rcases Nat.lt_trichotomy id h.length with hlt|heq|hgt
 ·left;rw[kf7 hlt]at hg;exact⟨hlt,hg⟩
 ·right;subst heq;simp at hg;exact⟨rfl,hg.symm⟩
 ·rw[km6 (by simp;omega)]at hg;cases hg
theorem nS {h:aB} (o:aN) {id:Nat} {o':aN} (hg:h[id]?=some o'):(h++[o])[id]?=some o':=by
 have hlt:=(kd6.1 hg).1;rw[kf7 hlt];exact hg
theorem Good.push (w:World) (μ:Pl) (h:aB) (o:aN) (ob:Obj):Good w μ h (w.alloc ob) (μ.put h.length (some w.heap.size)) (h++[o]) where
 os:=rfl
 tape:=rfl
 output:=rfl
 size:=by simp
 out:=rfl
 block b hb _:=Go.RowKit.Below.heap_alloc _ _ _ hb
 shape b cs T fr hb:=⟨cs,_,(Go.RowKit.Below.heap_alloc _ _ _ (kg7.1 hb).1).trans hb,rfl⟩
 fresh b hm:=by
  obtain⟨id,o',h1,h2,h3⟩:=hm;rcases jW h1 with⟨hlt,h1⟩|⟨rfl,rfl⟩
  ·rw[kc2 _ _ _ _ (by omega)]at h3;exact .inl ⟨id,o',h1,h2,h3⟩
  ·rw[kc1]at h3;cases h3;exact .inr (kf2 _)
 len:=by simp
 boxes id ty cells hb:=.inr ⟨cells,ty,nS o hb,rfl,kc2 _ _ _ _ (by have:=(kd6.1 hb).1;omega)⟩
 arrs id ty fz sz ver xs hb:=.inr ⟨fz,sz,ver,xs,ty,nS o hb,.inl ⟨rfl,rfl,rfl,kc2 _ _ _ _ (by have:=(kd6.1 hb).1;omega)⟩⟩
 deads id hb:=nS o hb
def vP (w:World) (μ:Pl) (h:aB) (cs:Array Value):aN→Prop
 |.bx _ cells=>cells.length≤cs.size∧(∀v∈cs,v.oneCell'=true)∧∀(j:Nat) (l:L) (v:Value),cells[j]?=some l→cs[j]?=some v→bE w μ h l v
 |.ar _ _ sz _ xs=>xs.length*sz≤cs.size∧(∀v∈cs,v.oneCell'=true)∧(∀(i:Nat) (e:List D),xs[i]?=some e→e.length=sz)∧
   ∀(i j:Nat) (e:List D) (x:D),xs[i]?=some e→e[j]?=some x→∃v,cs[i*sz+j]?=some v∧cQ w (Mut μ h) x v
 |.dead=>True
theorem aW.push (H:aW w μ h) {o:aN} {cs:Array Value} {T:TypeId} (ho:vP w μ h cs o) (hty:o.tyOk (w.alloc (.cells cs T)) w.heap.size:=by trivial) :
  aW (w.alloc (.cells cs T)) (μ.put h.length (some w.heap.size)) (h++[o]):=by
 have g:=Good.push w μ h o (.cells cs T);have hnew:(w.alloc (.cells cs T)).heap[w.heap.size]?=some (.cells cs T (0,0)):=by show(w.heap.push _)[w.heap.size]?=_;simp
 refine⟨?_,?_,?_,?_,fun b hb=>kr4 (H.old b hb) (by simp),fun i o1 k hi m1=>by
  rcases jW hi with⟨hlt,hi1⟩|⟨e1,e2⟩
  ·rw[kc2 _ _ _ _ (by omega)]at m1;exact(H.ty _ _ _ hi1 m1).good g
  ·rw[e1,kc1]at m1;cases m1;rw[e2];exact hty⟩
 ·intro id ty cells hid;rcases jW hid with⟨hlt,hid⟩|⟨rfl,rfl⟩
  ·obtain⟨b,cs',T',h1,h2,h3,h4,h5⟩:=H.box _ _ hid;exact⟨b,cs',T',by rw[kc2 _ _ _ _ (by omega)];exact h1,(Go.RowKit.Below.heap_alloc _ _ _ (kg7.1 h2).1).trans h2,h3,h4,fun j l v hj hv=>(h5 j l v hj hv).good g⟩
  ·exact⟨w.heap.size,cs,T,kc1 _ _ _,hnew,ho.1,ho.2.1,fun j l v hj hv=>(ho.2.2 j l v hj hv).good g⟩
 ·intro id ty fz sz ver xs hid;rcases jW hid with⟨hlt,hid⟩|⟨rfl,rfl⟩
  ·rw[kc2 _ _ _ _ (by omega)];rcases H.arr _ _ _ _ _ hid with hn|⟨b,cs',T',h1,h2,h3,h4,h5,h6⟩
   ·exact .inl hn
   ·exact .inr ⟨b,cs',T',h1,(Go.RowKit.Below.heap_alloc _ _ _ (kg7.1 h2).1).trans h2,h3,h4,h5,fun i j e x hi hj=>let ⟨v,a,b⟩:=h6 i j e x hi hj;⟨v,a,b.good g⟩⟩
  ·exact .inr ⟨w.heap.size,cs,T,kc1 _ _ _,hnew,ho.1,ho.2.1,ho.2.2.1,fun i j e x hi hj=>let ⟨v,a,b⟩:=ho.2.2.2 i j e x hi hj;⟨v,a,b.good g⟩⟩
 ·intro i j o1 o2 b hi hj t1 t2 m1 m2;have lt_of:∀{id:Nat} {o:aN} {b:Nat},h[id]?=some o→o.there=true→μ id=some b→b<w.heap.size:=by
   intro id o b hid ht hm;cases o with
   |bx ty cells=>obtain⟨b',cs',T',h1,h2,_⟩:=H.box _ _ hid;rw[hm]at h1;cases h1;exact(kg7.1 h2).1
   |ar ty fz sz ver xs=>
    rcases H.arr _ _ _ _ _ hid with⟨hn,_⟩|⟨b',cs',T',h1,h2,_⟩
    ·rw[hm]at hn;cases hn
    ·rw[hm]at h1;cases h1;exact(kg7.1 h2).1
   |dead=>cases ht
  rcases jW hi with⟨hlt,hi1⟩|⟨e1,_⟩<;>rcases jW hj with⟨hlt',hj1⟩|⟨e2,_⟩
  ·rw[kc2 _ _ _ _ (by omega)]at m1 m2;exact H.apart i j o1 o2 b hi1 hj1 t1 t2 m1 m2
  ·rw[kc2 _ _ _ _ (by omega)]at m1;rw[e2,kc1]at m2;cases m2;have:=lt_of hi1 (kb2 t1) m1;omega
  ·rw[kc2 _ _ _ _ (by omega)]at m2;rw[e1,kc1]at m1;cases m1;have:=lt_of hj1 t2 m2;omega
  ·rw[e1,e2]
 ·intro i o1 b hi t1 m1;rcases jW hi with⟨hlt,hi1⟩|⟨e1,_⟩
  ·rw[kc2 _ _ _ _ (by omega)]at m1;exact H.off i o1 b hi1 t1 m1
  ·rw[e1,kc1]at m1;cases m1;intro hx;have:=H.old _ hx;omega
theorem zJ5 (H:aW w μ h) {cs:Array Value} {ls:List L} {t:TypeId} (h1:ls.length=cs.size) (h2:∀v∈cs,v.oneCell'=true) (h3:∀(j:Nat) (l:L) (v:Value),ls[j]?=some l→cs[j]?=some v→bE w μ h l v) :
  aW (w.alloc (.cells cs t)) (μ.put h.length (some w.heap.size)) (h++[kN P t ls]):=by
 obtain⟨ty,e,e'⟩:=zJ1 P t ls;rw[e];refine H.push (o:=.bx ty ls) ⟨kx3 h1,h2,h3⟩ ?_;rcases e' with rfl|rfl
 ·trivial
 ·show World.shape? _ _=_;have hnew:(w.alloc (.cells cs t)).heap[w.heap.size]?=some (.cells cs t (0,0)):=by show(w.heap.push _)[w.heap.size]?=_;simp
  simp only[World.shape?,hnew,h1]
theorem zJ6 {cs:Array Value} {ls:List L} {t:TypeId}:bE (w.alloc (.cells cs t)) (μ.put h.length (some w.heap.size)) (h++[kN P t ls]) (.ptr h.length 0) (.pointer (some ⟨w.heap.size,0,none⟩)):=by
 obtain⟨ty,e,_⟩:=zJ1 P t ls;rw[e];exact .ptr (ty:=ty) (cells:=ls) (by simp) (kg1 _) (kc1 _ _ _)
theorem je6 {v:V} {x:Value} {ls:List L} (H:aW w μ h) (hx:bF w μ h v x) (hv:gJ v=some ls) (hn:ls≠[.any]) (t:TypeId) :
  ∃μ',(newVar t x).run P w = .ok ⟨w.heap.size,0,none⟩ (w.alloc (.cells x.cells t))∧aW (w.alloc (.cells x.cells t)) μ' (h++[kN P t ls])∧
   bE (w.alloc (.cells x.cells t)) μ' (h++[kN P t ls]) (.ptr h.length 0) (.pointer (some ⟨w.heap.size,0,none⟩))∧Good w μ h (w.alloc (.cells x.cells t)) μ' (h++[kN P t ls]):=by
 obtain⟨h1,h2,h3⟩:=hx.cells hv (.inl hn);exact⟨_,rfl,zJ5 H h1 h2 h3,zJ6,Good.push _ _ _ _ _⟩
theorem zi5 {d:TypeDesc} (hk:oQ d = .struct):∃fs,d = .struct fs:=by cases d<;>first|exact⟨_,rfl⟩|cases hk
theorem oV {d:TypeDesc} (hk:oQ d = .slice):∃e,d = .slice e:=by cases d<;>first|exact⟨_,rfl⟩|cases hk
theorem zL {d:TypeDesc} (hk:oQ d = .str):d = .string:=by cases d<;>first|rfl|cases hk
theorem je7 {d:TypeDesc} {k:IntKind} (hk:oQ d = .int k):d = .int k:=by cases d<;>first|(cases hk;rfl)|cases hk
theorem je8 {i:TI} {t:TypeId} {f:Nat} {F:Nat×Nat×Bool} {p q:L} {x:Value} (ht:ti P t=some i) (hk:i.kd = .struct) (hf:i.flds[f]?=some F) (h0:F.2.1≠0)
  (hp:bE w μ h p x) (hq:lR h F.1 p=some q) :
  ∃y,(Instr.fieldAt t x f).run P w = .ok y w∧bE w μ h q y∧y.oneCell'=true:=by
 obtain⟨I,d,h1,h2,h3,h4,h5,h6,h7,h8,_⟩:=fF ht;obtain⟨fs,hd⟩:=zi5 (h7▸hk);obtain⟨FF,hF1,hF2⟩:=zi1 (h8 fs hd) hf;obtain⟨IF,dF,hF3,hF4,hF5⟩:=zi2 hF2;subst hF5;have hrun:∀ad:Addr,(Instr.fieldAt t (.pointer (some ad)) f).run P w = .ok (.pointer (some (ad.add FF.offset))) w:=by
  intro ad;have hF1':fs[f]?=some FF:=by simpa using hF1
  have hs:(sizeOf FF.type).run P w = .ok IF.size w:=by simp[sizeOf,typeInfo,hF3,Result.andThen]
  simp only[Instr.fieldAt,Sem.run_bind,run_underlying h2,Result.andThen,hd,hF1',Instr.sureAddr,Sem.run_pure,fieldPlace,hs];simp only at h0;simp[h0]
 unfold lR at hq;split at hq
 ·split at hq
  ·rename_i cells hid;split at hq
   ·rename_i hle;cases hq;cases hp with
    |ptr hid' hoff hμ=>
     rw[hid]at hid';cases hid';refine⟨_,hrun _,?_,rfl⟩;rw[fW];exact .ptr hid hle hμ
    |ptrDead hid'=>rw[hid]at hid';cases hid'
   ·cases hq
  ·cases hq
 ·split at hq
  ·rename_i fz sz ver' xs hid;split at hq
   ·rename_i hcnd;obtain⟨rfl,hle⟩:=hcnd;cases hq;cases hp with
    |ept hid' hi hj hμ=>
     rw[hid]at hid';cases hid';refine⟨_,hrun _,?_,rfl⟩;rw[fW,kr3];exact .ept hid hi hle hμ
    |eptOld hid' hv=>rw[hid]at hid';cases hid';omega
    |eptDead hid'=>rw[hid]at hid';cases hid'
   ·cases hq
  ·cases hq
 ·cases hq;cases hp with
  |@ref cells b off vs hb hlt hc hd'=>
   refine⟨_,hrun _,?_,rfl⟩;rw[fW];refine .ref (vs:=fun j=>vs (FF.offset+j)) hb hlt (fun j x hj=>?_) (fun j x hj=>?_)
   ·rw[kj1]at hj;rw[kr3];exact hc _ _ hj
   ·rw[kj1]at hj;exact hd' _ _ hj
 ·cases hq
theorem je9 {i:TI} {t:TypeId} {iE:EI} {k:IntKind} {n:Int} {p q:L} {x:Value} (ht:ti P t=some i) (hE:i.el=some iE)
  (hp:bE w μ h p x) (hq:jV h iE.size n p=some q):∃y,(Instr.indexAt t x (.int k n)).run P w = .ok y w∧bE w μ h q y∧y.oneCell'=true:=by
 obtain⟨I,d,h1,h2,h3,h4,h5,h6,h7,h8,h9,h10,_⟩:=fF ht;obtain⟨e,rfl⟩:=h10 (by rw[hE];rfl);have hE':gW P e=some iE:=by rw[←h9 e rfl];exact hE
 have hrun:∀(ad:Addr) (len cap:Nat),0≤n→n<len→(Instr.indexAt t (.slice (some ad) len cap) (.int k n)).run P w = .ok (.pointer (some (ad.add (n.toNat*iE.size)))) w:=by
  intro ad len cap h0 hlt;have he:P.elem t=e:=by simp[Program.elem,h2]
  rw[run_indexAt_slice w t ad len cap k n (by rw[he];exact h2),if_pos ⟨h0,hlt⟩,he,nR hE'];rfl
 unfold jV at hq;split at hq
 ·rename_i xs;split at hq
  ·rename_i h0;split at hq
   ·rename_i el hel;split at hq
    ·rename_i hlen;cases hq;cases hp with
     |d hp=>
      cases hp with
      |sl0 a cap=>simp at hel
      |sl sz xs b off cap vs hne hb hlt hcap hl hc hd'=>
       have hlt':n.toNat<xs.length:=(kd6.1 hel).1;refine⟨_,hrun _ _ _ h0 (by omega),?_,rfl⟩;have hsz:sz=iE.size:=by rw[←hl _ _ hel,hlen]
       rw[fW,←hsz];exact .ref (vs:=fun j=>vs n.toNat j) hb hlt (fun j x hj=>by rw[kr3];exact hc _ _ _ _ hel hj) (fun j x hj=>hd' _ _ _ _ hel hj)
    ·cases hq
   ·cases hq
  ·cases hq
 ·rename_i id ver len;split at hq
  ·rename_i fz sz ver' xs hid;split at hq
   ·rename_i hcnd;obtain⟨rfl,hsz,h0,hlt⟩:=hcnd;cases hq;cases hp with
    |own hid' hl hμ hcap hb hcs=>
     rw[hid]at hid';cases hid';refine⟨_,hrun _ _ _ h0 hlt,?_,rfl⟩;rw[fW,kh8,←hsz];exact .ept hid (by omega) (kg1 _) hμ
    |ownNil hid' hμ=>omega
    |ownOld hid' hv=>rw[hid]at hid';cases hid';omega
    |ownDead hid'=>rw[hid]at hid';cases hid'
   ·cases hq
  ·cases hq
 ·rename_i id off len;split at hq
  ·rename_i cells hid;split at hq
   ·rename_i hcnd;obtain⟨hsz,h0,hlt⟩:=hcnd;cases hq;cases hp with
    |bsl hid' hl hμ hcap hb hcs=>
     rw[hid]at hid';cases hid';refine⟨_,hrun _ _ _ h0 hlt,?_,rfl⟩;rw[fW,hsz,Nat.mul_one];exact .ptr hid (by omega) hμ
    |bslDead hid'=>rw[hid]at hid';cases hid'
   ·cases hq
  ·cases hq
 ·rename_i id ver off len;split at hq
  ·rename_i fz sz ver' xs hid;split at hq
   ·rename_i hcnd;obtain⟨rfl,hsz,h0,hlt⟩:=hcnd;cases hq;cases hp with
    |osl hid' hl hμ hcap hb hcs=>
     rw[hid]at hid';cases hid';refine⟨_,hrun _ _ _ h0 hlt,?_,rfl⟩;rw[fW,←hsz,←Nat.add_mul];exact .ept hid (by omega) (kg1 _) hμ
    |oslOld hid' hv=>rw[hid]at hid';cases hid';omega
    |oslDead hid'=>rw[hid]at hid';cases hid'
   ·cases hq
  ·cases hq
 ·cases hq
structure vQ (w w':World) (g:Nat) (cs:Array Value) (t:TypeId):Prop where
 os:w'.os=w.os
 tape:w'.tape=w.tape
 output:w'.output=w.output
 size:w'.heap.size=w.heap.size
 other:∀k,k≠g→w'.heap[k]?=w.heap[k]?
 row:w'.heap[g]?=some (.cells cs t (0,0))
theorem vR (g o:Nat) (t:TypeId):∀(vs:List Value) (i:Nat) (cur:Array Value) (w:World),w.heap[g]?=some (.cells cur t (0,0))→o+i+vs.length≤cur.size→(∀v∈vs,v.oneCell'=true)→
  ∃w' cs',(storeCells ⟨g,o,none⟩ vs i).run P w = .ok () w'∧vQ w w' g cs' t∧cs'.size=cur.size∧∀j,cs'[j]?=if o+i≤j∧j<o+i+vs.length then vs[j-(o+i)]? else cur[j]?
 |[],i,cur,w,hg,hl,_=>by
  refine⟨w,cur,rfl,⟨rfl,rfl,rfl,rfl,fun _ _=>rfl,hg⟩,rfl,fun j=>?_⟩;rw[if_neg (by simp)]
 |v::rest,i,cur,w,hg,hl,h1=>by
  simp only[kf6]at hl;have hi:o+i<cur.size:=by omega
  have hcell:w.cell? ⟨g,o+i,none⟩=some cur[o+i]:=by simp[World.cell?,hg,hi]
  have hfro:w.frozen? ⟨g,o+i,none⟩=false:=by simp[World.frozen?,hg]
  have hst:(store ((⟨g,o,none⟩:Addr).add i) v).run P w = .ok () (w.setCell ⟨g,o+i,none⟩ v):=by
   rw[fW,run_store P w _ v _ (h1 v (by simp)),hcell];simp[hfro]
  have hg':(w.setCell ⟨g,o+i,none⟩ v).heap[g]?=some (.cells (cur.setIfInBounds (o+i) v) t (0,0)):=by
   simp only[World.setCell,Array.getElem?_modify,if_true,hg,Option.map_some];rfl
  obtain⟨w',cs',hr,hrow,hsz,hall⟩:=vR g o t rest (i+1) (cur.setIfInBounds (o+i) v) _ hg' (by simp;omega) (fun x hx=>h1 x (by simp[hx]));refine⟨w',cs',?_,⟨hrow.os,hrow.tape,hrow.output,by rw[hrow.size];simp,fun k hk=>?_,hrow.row⟩,by rw[hsz];simp,fun j=>?_⟩
  ·simp only[storeCells,Sem.run_bind,hst,Result.andThen];exact hr
  ·rw[hrow.other k hk];exact Go.RowKit.Below.heap_setCell _ _ _ _ hk
  ·rw[hall j];simp only[kf6];by_cases h1:o+(i+1)≤j∧j<o+(i+1)+rest.length
   ·rw[if_pos h1,if_pos (by omega),show j-(o+i)=(j-(o+(i+1)))+1 by omega,List.getElem?_cons_succ]
   ·rw[if_neg h1];by_cases h2:j=o+i
    ·subst h2;rw[if_pos (by omega)];simp[hi]
    ·rw[if_neg (by omega),Array.getElem?_setIfInBounds_ne (by omega)]
theorem gK {h:aB} {id id':Nat} {o o':aN} (hg:(h.set id o)[id']?=some o'):(id'=id∧o'=o)∨(id'≠id∧h[id']?=some o'):=by
 rw[km1]at hg;split at hg
 ·rename_i e;split at hg
  ·cases hg;exact .inl ⟨e.symm,rfl⟩
  ·cases hg
 ·rename_i e;exact .inr ⟨fun e'=>e e'.symm,hg⟩
def kQ (o o':aN):Prop:=match o,o' with
 |.bx ty cells,.bx ty' cells'=>ty'=ty∧cells'.length=cells.length
 |.ar ty fz sz ver xs,.ar ty' fz' sz' ver' xs'=>ty'=ty∧fz'=fz∧sz'=sz∧ver'=ver∧xs'.length=xs.length
 |_,_=>False
theorem Good.row {w':World} {id b:Nat} {o o':aN} {cs cs':Array Value} {t:TypeId} (hid:h[id]?=some o) (hl:o.live=true) (hf:kQ o o') (hμ:μ id=some b) (hw:w.heap[b]?=some (.cells cs t (0,0)))
  (hr:vQ w w' b cs' t) (hsz:cs'.size=cs.size):Good w μ h w' μ (h.set id o') where
 os:=hr.os
 tape:=hr.tape
 output:=hr.output
 size:=kx3 hr.size.symm
 out:=rfl
 block k hk hm:=hr.other k (fun e=>hm ⟨id,o,hid,hl,e▸hμ⟩)
 shape k c T fr hk:=by
  by_cases e:k=b
  ·subst e;rw[hw]at hk;cases hk;exact⟨cs',_,hr.row,hsz⟩
  ·exact⟨c,_,(hr.other k e).trans hk,rfl⟩
 fresh k hm:=by
  obtain⟨id',o1,h1,h2,h3⟩:=hm;rcases gK h1 with⟨rfl,rfl⟩|⟨hne,h1⟩
  ·exact .inl ⟨id',o,hid,hl,h3⟩
  ·exact .inl ⟨id',o1,h1,h2,h3⟩
 len:=by simp
 boxes id' ty cells hb:=by
  by_cases e:id'=id
  ·subst e;rw[hid]at hb;cases hb;cases o' with
   |bx ty' cells'=>exact .inr ⟨cells',ty',by simp[(kd6.1 hid).1],hf.2,rfl⟩
   |_=>exact hf.elim
  ·exact .inr ⟨cells,ty,by rw[kh7 (Ne.symm e)];exact hb,rfl,rfl⟩
 arrs id' ty fz sz ver xs hb:=by
  by_cases e:id'=id
  ·subst e;rw[hid]at hb;cases hb;cases o' with
   |ar ty' fz' sz' ver' xs'=>obtain⟨e0,e1,e2,e3,e4⟩:=hf;exact .inr ⟨fz',sz',ver',xs',ty',by simp[(kd6.1 hid).1],.inl ⟨e3,e2,e4,rfl⟩⟩
   |_=>exact hf.elim
  ·exact .inr ⟨fz,sz,ver,xs,ty,by rw[kh7 (Ne.symm e)];exact hb,.inl ⟨rfl,rfl,rfl,rfl⟩⟩
 deads id' hb:=by
  by_cases e:id'=id
  ·subst e;rw[hid]at hb;cases hb;cases hl
  ·rw[kh7 (Ne.symm e)];exact hb
theorem kQ.there {o o':aN} (h:kQ o o'):o.there=true∧o'.there=true:=by
 cases o<;>cases o'<;>first|exact⟨rfl,rfl⟩|exact h.elim
theorem aW.row {w':World} {id b:Nat} {o o':aN} {cs cs':Array Value} {t:TypeId} (H:aW w μ h) (hid:h[id]?=some o) (hl:o.live=true) (hf:kQ o o') (hμ:μ id=some b) (hw:w.heap[b]?=some (.cells cs t (0,0)))
  (hr:vQ w w' b cs' t) (hsz:cs'.size=cs.size) (hnew:vP w' μ (h.set id o') cs' o'):aW w' μ (h.set id o'):=by
 have g:=Good.row hid hl hf hμ hw hr hsz;refine⟨?_,?_,?_,?_,fun b hb=>by rw[hr.size];exact H.old b hb,?_⟩
 ·intro id' ty cells hid';rcases gK hid' with⟨rfl,rfl⟩|⟨hne,hid'⟩
  ·exact⟨b,cs',t,hμ,hr.row,hnew.1,hnew.2.1,hnew.2.2⟩
  ·obtain⟨b',c,T,h1,h2,h3,h4,h5⟩:=H.box _ _ hid';have hb:b'≠b:=fun e=>hne (H.apart id id' _ _ b hid hid' hl rfl hμ (e▸h1)).symm;exact⟨b',c,T,h1,(hr.other _ hb).trans h2,h3,h4,fun j l v hj hv=>(h5 j l v hj hv).good g⟩
 ·intro id' ty fz sz ver xs hid';rcases gK hid' with⟨rfl,rfl⟩|⟨hne,hid'⟩
  ·exact .inr ⟨b,cs',t,hμ,hr.row,hnew.1,hnew.2.1,hnew.2.2.1,hnew.2.2.2⟩
  ·rcases H.arr _ _ _ _ _ hid' with hn|⟨b',c,T,h1,h2,h3,h4,h5,h6⟩
   ·exact .inl hn
   ·have hb:b'≠b:=fun e=>hne (H.apart id id' _ _ b hid hid' hl rfl hμ (e▸h1)).symm;exact .inr ⟨b',c,T,h1,(hr.other _ hb).trans h2,h3,h4,h5,fun i j e x hi hj=>let ⟨v,a,b⟩:=h6 i j e x hi hj;⟨v,a,b.good g⟩⟩
 ·intro i j o1 o2 k hi hj t1 t2 m1 m2;rcases gK hi with⟨e1,_⟩|⟨hne,hi1⟩<;>rcases gK hj with⟨e2,_⟩|⟨hne',hj1⟩
  ·rw[e1,e2]
  ·subst e1;exact H.apart _ _ _ _ k hid hj1 hl t2 m1 m2
  ·subst e2;exact H.apart _ _ _ _ k hi1 hid t1 hf.there.1 m1 m2
  ·exact H.apart _ _ _ _ k hi1 hj1 t1 t2 m1 m2
 ·intro i o1 k hi t1 m1;rcases gK hi with⟨e1,_⟩|⟨hne,hi1⟩
  ·subst e1;exact H.off _ _ _ hid hf.there.1 m1
  ·exact H.off _ _ _ hi1 t1 m1
 ·intro i o1 k hi m1;rcases gK hi with⟨e1,e2⟩|⟨hne,hi1⟩
  ·subst e1;subst e2;have h0:=(H.ty _ _ _ hid m1).good g;unfold kQ at hf;split at hf
   ·obtain⟨rfl,e⟩:=hf;unfold aN.tyOk at h0 ⊢;split
    ·rename_i heq;cases heq;simpa[e]using h0
    ·rename_i heq;cases heq
    ·trivial
   ·obtain⟨rfl,_⟩:=hf;unfold aN.tyOk at h0 ⊢;split
    ·rename_i heq;cases heq
    ·rename_i heq;cases heq;exact h0
    ·trivial
   ·exact hf.elim
  ·exact(H.ty _ _ _ hi1 m1).good g
theorem zi6 {α:Type} (cs:List α) (off:Nat) (vs:List α) (hle:off+vs.length≤cs.length) (j:Nat):(lB cs off vs)[j]?=if off≤j∧j<off+vs.length then vs[j-off]? else cs[j]?:=by
 unfold lB;have ht:(cs.take off).length=off:=by simp;omega
 rw[List.append_assoc,ko9];split
 ·rename_i h1;rw[ht]at h1;rw[if_neg (by omega),kg4 h1]
 ·rename_i h1;rw[ht]at h1 ⊢;rw[ko9];split
  ·rename_i h2;rw[if_pos (by omega)]
  ·rename_i h2;rw[if_neg (by omega),kj1]
   congr 1;omega
theorem tB {α:Type} (cs:List α) (off:Nat) (vs:List α) (hle:off+vs.length≤cs.length):(lB cs off vs).length=cs.length:=by
 simp[lB];omega
theorem vS {h:aB} {id k:Nat}:(fzOne h id)[k]?=if k=id then (h[k]?).map aN.freeze else h[k]?:=by
 unfold fzOne;split
 ·rename_i o ho;rw[km1];by_cases e:id=k
  ·subst e;rw[if_pos rfl,if_pos (kd6.1 ho).1,if_pos rfl,ho];rfl
  ·rw[if_neg e,if_neg (Ne.symm e)]
 ·rename_i ho;by_cases e:k=id
  ·subst e;rw[if_pos rfl,ho];rfl
  ·rw[if_neg e]
theorem rJ {h:aB} {id k:Nat} {o:aN} (hk:(fzOne h id)[k]?=some o):∃o0,h[k]?=some o0∧(o=o0∨o=o0.freeze):=by
 rw[vS]at hk;split at hk
 ·cases hh:h[k]? with
  |none=>simp[hh]at hk
  |some o0=>simp[hh]at hk;exact⟨o0,rfl,.inr hk.symm⟩
 ·exact⟨o,hk,.inl rfl⟩
theorem kc3 (w:World) (μ:Pl) (h:aB) (id:Nat):Good w μ h w μ (fzOne h id) where
 os:=rfl
 tape:=rfl
 output:=rfl
 size:=kf2 _
 out:=rfl
 block _ _ _:=rfl
 shape _ cs _ _ hb:=⟨cs,_,hb,rfl⟩
 fresh b hm:=by
  obtain⟨k,o,h1,h2,h3⟩:=hm;obtain⟨o0,h0,e|e⟩:=rJ h1
  ·subst e;exact .inl ⟨k,o,h0,h2,h3⟩
  ·subst e;cases o0 with
   |bx ty cells=>exact .inl ⟨k,_,h0,rfl,h3⟩
   |ar ty fz sz ver xs=>cases h2
   |dead=>cases h2
 len:=by unfold Vt.fzOne;split<;>simp
 boxes k ty cells hb:=.inr ⟨cells,ty,by rw[vS,hb];split<;>rfl,rfl,rfl⟩
 arrs k ty fz sz ver xs hb:=.inr (by
  rw[vS,hb];split
  ·exact⟨true,sz,ver,xs,ty,rfl,.inl ⟨rfl,rfl,rfl,rfl⟩⟩
  ·exact⟨fz,sz,ver,xs,ty,rfl,.inl ⟨rfl,rfl,rfl,rfl⟩⟩)
 deads k hb:=by rw[vS,hb];split<;>rfl
theorem aW.fzOne (H:aW w μ h) (id:Nat):aW w μ (Vt.fzOne h id):=by
 have g:=kc3 w μ h id;have th:∀{o0 o:aN},(o=o0∨o=o0.freeze)→o.there=true→o0.there=true:=by
  intro o0 o e t;rcases e with e|e
  ·rw[←e];exact t
  ·subst e;cases o0<;>first|rfl|exact t
 refine⟨?_,?_,?_,?_,H.old,?_⟩
 ·intro k ty cells hk;obtain⟨o0,h0,e|e⟩:=rJ hk
  ·subst e;obtain⟨b,cs,T,h1,h2,h3,h4,h5⟩:=H.box _ _ h0;exact⟨b,cs,T,h1,h2,h3,h4,fun j l v hj hv=>(h5 j l v hj hv).good g⟩
  ·cases o0 with
   |bx ty cells'=>
    cases e;obtain⟨b,cs,T,h1,h2,h3,h4,h5⟩:=H.box _ _ h0;exact⟨b,cs,T,h1,h2,h3,h4,fun j l v hj hv=>(h5 j l v hj hv).good g⟩
   |_=>cases e
 ·intro k ty fz sz ver xs hk;have:∃fz',h[k]?=some (.ar ty fz' sz ver xs):=by
   obtain⟨o0,h0,e|e⟩:=rJ hk
   ·exact⟨fz,e▸h0⟩
   ·cases o0 with
    |ar ty' fz' sz' ver' xs'=>cases e;exact⟨fz',h0⟩
    |_=>cases e
  obtain⟨fz',h0⟩:=this;rcases H.arr _ _ _ _ _ h0 with hn|⟨b,cs,T,h1,h2,h3,h4,h5,h6⟩
  ·exact .inl hn
  ·exact .inr ⟨b,cs,T,h1,h2,h3,h4,h5,fun i j e x hi hj=>let ⟨v,a,b⟩:=h6 i j e x hi hj;⟨v,a,b.good g⟩⟩
 ·intro i j o1 o2 k hi hj t1 t2 m1 m2;obtain⟨p1,h1,e1⟩:=rJ hi;obtain⟨p2,h2,e2⟩:=rJ hj;refine H.apart _ _ _ _ k h1 h2 ?_ (th e2 t2) m1 m2;rcases e1 with e1|e1
  ·rw[←e1];exact t1
  ·subst e1;cases p1<;>first|exact t1|cases t1
 ·intro i o1 k hi t1 m1;obtain⟨p1,h1,e1⟩:=rJ hi;exact H.off _ _ _ h1 (th e1 t1) m1
 ·intro i o1 k hi m1;obtain⟨p1,h1,e1⟩:=rJ hi;have h0:=H.ty _ _ _ h1 m1;rcases e1 with e1|e1
  ·rw[e1];exact h0
  ·subst e1;cases p1 with
   |ar t _ _ _ _=>cases t<;>exact h0
   |_=>exact h0
theorem jf0 (H:aW w μ h) (l:L):aW w μ (fzL h l)∧Good w μ h w μ (fzL h l):=by
 unfold fzL;split
 ·exact⟨H.fzOne _,kc3 _ _ _ _⟩
 ·exact⟨H,kb7 _ _ _⟩
theorem zi7:∀(ls:List L) {h:aB},aW w μ h→aW w μ (kO h ls)∧Good w μ h w μ (kO h ls)
 |[],_,H=>⟨H,kb7 _ _ _⟩
 |l::r,_,H=>by
  obtain⟨H1,g1⟩:=jf0 H l;obtain⟨H2,g2⟩:=zi7 r H1;exact⟨H2,g1.trans g2⟩
theorem zJ7 (H:aW w μ h) {id ver len:Nat} {ty:Option TypeId} {fz:Bool} {sz:Nat} {xs:List (List D)} {v:Value} {M:Nat→Prop} (hid:h[id]?=some (.ar ty fz sz ver xs)) (hl:bE w μ h (.own id ver len) v)
  (hM:∀b,M b→Mut μ h b) (hn:∀b,μ id=some b→¬M b):cQ w M (.sl (xs.take len)) v:=by
 cases hl with
 |@own _ _ _ _ _ _ _ _ b0 cap0 cs0 T0 hid' hlen hμ hcap hb hcs=>
  rw[hid]at hid';cases hid';rcases H.arr _ _ _ _ _ hid with⟨hn',_⟩|⟨b,cs,T,h1,h2,h3,h4,h5,h6⟩
  ·rw[hμ]at hn';cases hn'
  ·rw[hμ]at h1;cases h1;have hlt:=(kg7.1 h2).1;have hlen':(xs.take len).length=len:=by simp;omega
   cases hxs:xs.take len with
   |nil=>
    have hl0:len=0:=by rw[hxs]at hlen';exact hlen'.symm
    subst hl0;exact .sl0 _ _
   |cons e0 r0=>
    rw[←hxs];have hget:∀{i:Nat} {e:List D},(xs.take len)[i]?=some e→xs[i]?=some e:=by
     intro i e hi;have:i<len:=by have:=(kd6.1 hi).1;omega
     rwa [kg4 this]at hi
    have:=cQ.sl (w:=w) (M:=M) sz (xs.take len) _ 0 _ (fun i j=>cs.getD (i*sz+j) undef) (by rw[hxs];simp) (hn _ hμ) hlt (by rw[hlen'];exact hcap)
     (fun i e hi=>h5 i e (hget hi))
     (fun i j e x hi hj=>by
      obtain⟨u,hu,_⟩:=h6 i j e x (hget hi) hj;rw[kh8,oU h2,hu];simp[kl0,hu])
     (fun i j e x hi hj=>by
      obtain⟨u,hu,hd⟩:=h6 i j e x (hget hi) hj;have hd':cQ w M x u:=hd.step (fun _ _ _=>rfl) (fun b hb=>.inl (hM b hb));simpa[kl0,hu]using hd')
    rw[hlen']at this;exact this
 |ownNil hid' hμ=>
  simp;exact .sl0 _ _
 |ownOld hid' hv=>rw[hid]at hid';cases hid';omega
 |ownDead hid'=>rw[hid]at hid';cases hid'
theorem zJ8 (H:aW w μ h) {l:L} {x:D} {v:Value} (hl:bE w μ h l v) (hx:toD h l=some x):cQ w (Mut μ h) x v:=by
 unfold toD at hx;split at hx
 ·cases hx;cases hl with|d hd=>exact hd
 ·cases hx;cases hl;exact .sl0 _ _
 ·rename_i id ver len;split at hx
  ·rename_i sz ver' xs hid;split at hx
   ·rename_i e;subst e;cases hx;refine zJ7 H hid hl (fun _ hb=>hb) (fun b hμ=>?_);rintro(⟨k,o,k1,k2,k3⟩|hX)
    ·have e:=H.apart _ _ _ _ _ k1 hid k2 rfl k3 hμ;subst e;rw[hid]at k1;cases k1;cases k2
    ·exact H.off _ _ _ hid rfl hμ hX
   ·cases hx
  ·cases hx
 ·cases hx
theorem zi8 (H:aW w μ h):∀{ls:List L} {ds:List D},jU h ls=some ds→ds.length=ls.length∧∀(j:Nat) (x:D) (l:L) (v:Value),ds[j]?=some x→ls[j]?=some l→bE w μ h l v→cQ w (Mut μ h) x v
 |[],ds,hd=>by cases hd;exact⟨rfl,by simp⟩
 |l::r,ds,hd=>by
  unfold jU at hd;split at hd
  ·rename_i x xs hx hxs;cases hd;obtain⟨h1,h2⟩:=zi8 H hxs;refine⟨by simp[h1],?_⟩;intro j y l' v hj hl hr;cases j with
   |zero=>simp at hj hl;subst hj;subst hl;exact zJ8 H hr hx
   |succ j=>exact h2 j y l' v (by simpa using hj) (by simpa using hl) hr
  ·cases hd
variable {P:Program} {w:World} {μ:Pl} {h:aB} {T:Sl} {a:Act}
theorem zJ9 {t:TypeId} {i:TI} (ht:ti P t=some i) {x:Value} (hs:x.cells.size=i.size) (g o:Nat) (cur:Array Value) (tt:TypeId) (hg:w.heap[g]?=some (.cells cur tt (0,0))) (hle:o+x.cells.size≤cur.size) (h1:∀v∈x.cells,v.oneCell'=true) :
  ∃w' cs',(storeVar t ⟨g,o,none⟩ x).run P w = .ok () w'∧vQ w w' g cs' tt∧cs'.size=cur.size∧∀j,cs'[j]?=if o≤j∧j<o+x.cells.size then x.cells[j-o]? else cur[j]?:=by
 obtain⟨w',cs',hr,hrow,hsz,hall⟩:=vR (P:=P) g o tt x.cells.toList 0 cur w hg (by simpa using hle) (fun v hv=>h1 v (by simpa using hv));refine⟨w',cs',?_,hrow,hsz,fun j=>?_⟩
 ·simp only[storeVar,Sem.run_bind,zJ3 ht,Result.andThen,hs,ne_eq,not_true_eq_false,if_false];exact hr
 ·rw[hall j];simp
theorem bF.cells' {v:V} {x:Value} {ls:List L} (hx:bF w μ h v x) (hv:gJ v=some ls) (hk:jD v=true):ls.length=x.cells.size∧(∀c∈x.cells,c.oneCell'=true)∧∀(j:Nat) (l:L) (c:Value),ls[j]?=some l→x.cells[j]?=some c→bE w μ h l c:=by
 cases hx with
 |one ho hl=>exact(bF.one ho hl).cells hv (.inr ho)
 |top=>cases hk
 |agg hl hc h1=>cases hv;exact⟨hl,h1,hc⟩
 |tup=>cases hv
theorem jf1 {t:TypeId} {i:TI} (ht:ti P t=some i) (H:aW w μ h) {p:L} {y:Value} {v:V} {x:Value} {h':aB} (hk:jD v=true)
  (hp:bE w μ h p y) (hx:bF w μ h v x) (hs:rI h i p v=some h') :
  ∃w',(Instr.storeAt t y x).run P w = .ok () w'∧aW w' μ h'∧Good w μ h w' μ h':=by
 unfold rI at hs;split at hs
 ·cases hs
 ·rename_i vs hv;obtain⟨e1,e2,e3⟩:=hx.cells' hv hk;split at hs
  ·rename_i hsz;split at hs
   ·rename_i id off;split at hs
    ·rename_i cells hid;split at hs
     ·rename_i hle;cases hs;cases hp with
      |ptrDead hid'=>rw[hid]at hid';cases hid'
      |ptr hid' hoff hμ=>
       rw[hid]at hid';cases hid';obtain⟨b,cs,T,hb,hw,hcs,h1,hl⟩:=H.box _ _ hid;rw[hμ]at hb;cases hb;obtain⟨w',cs',hr,hrow,hsz',hall⟩:=zJ9 (P:=P) (w:=w) ht (x:=x) (by omega) _ off cs T hw (by omega) e2;have g:Good w μ h w' μ (h.set id (.bx _ (lB cells off vs))):=Good.row hid rfl ⟨rfl,by rw[tB _ _ _ hle]⟩ hμ hw hrow hsz';refine⟨w',by simp only[Instr.storeAt,Instr.sureAddr,Sem.run_bind,Sem.run_pure,Result.andThen,hr],?_,g⟩;refine H.row hid rfl ⟨rfl,by rw[tB _ _ _ hle]⟩ hμ hw hrow hsz' ⟨by rw[tB _ _ _ hle];omega,?_,?_⟩
       ·intro u hu;obtain⟨j,hj,rfl⟩:=kn3 hu;have:=hall j;rw[kg5 hj]at this;split at this
        ·exact e2 _ (kn6 this.symm)
        ·exact h1 _ (kn6 this.symm)
       ·intro j l u hj hu;rw[zi6 _ _ _ hle]at hj;rw[hall j,←e1]at hu;split at hj
        ·rename_i hc;rw[if_pos hc]at hu;exact(e3 _ _ _ hj hu).good g
        ·rename_i hc;rw[if_neg hc]at hu;exact(hl _ _ _ hj hu).good g
     ·cases hs
    ·cases hs
   ·rename_i id ver k j;split at hs
    ·rename_i ds ty sz ver' xs hds hid;split at hs
     ·rename_i ev;subst ev;split at hs
      ·rename_i e he;split at hs
       ·rename_i hle;cases hs;obtain⟨H1,g1⟩:=zi7 vs H;obtain⟨d1,d2⟩:=zi8 H1 hds;have hp1:=hp.good g1;cases hp1 with
        |ept hid' hk' hj' hμ=>
         rw[hid]at hid';cases hid';rcases H1.arr _ _ _ _ _ hid with⟨hn,_⟩|⟨b,cs,T,hb,hw,hcs,h1,hlen,hl⟩
         ·rw[hμ]at hn;cases hn
         rw[hμ]at hb;cases hb;have hes:=hlen _ _ he;have hkl:=(kd6.1 he).1;have hbound:k*sz+j+x.cells.size≤cs.size:=by
          have:k*sz+sz≤xs.length*sz:=by rw[←kr0];exact kj2 _ hkl
          omega
         obtain⟨w',cs',hr,hrow,hsz',hall⟩:=zJ9 (P:=P) (w:=w) ht (x:=x) (by omega) _ (k*sz+j) cs T hw hbound e2;have hfit:kQ (.ar ty false sz ver' xs) (.ar ty false sz ver' (xs.set k (lB e j ds))):=⟨rfl,rfl,rfl,rfl,by simp⟩;have g2:Good w μ (kO h vs) w' μ ((kO h vs).set id (.ar ty false sz ver' (xs.set k (lB e j ds)))):=Good.row hid rfl hfit hμ hw hrow hsz';refine⟨w',by simp only[Instr.storeAt,Instr.sureAddr,Sem.run_bind,Sem.run_pure,Result.andThen,hr],?_,g1.trans g2⟩;refine H1.row hid rfl hfit hμ hw hrow hsz' ⟨by simp;omega,?_,?_,?_⟩
         ·intro u hu;obtain⟨q,hq,rfl⟩:=kn3 hu;have:=hall q;rw[kg5 hq]at this;split at this
          ·exact e2 _ (kn6 this.symm)
          ·exact h1 _ (kn6 this.symm)
         ·intro i' e' hi';rw[km1]at hi';by_cases hik:k=i'
          ·rw[if_pos hik,if_pos hkl]at hi';cases hi';rw[tB _ _ _ hle];exact hes
          ·rw[if_neg hik]at hi';exact hlen _ _ hi'
         ·intro i' j' e' x' hi' hj';have hi0:=hi';rw[km1]at hi';have hjl:j'<sz:=by
           have:=(kd6.1 hj').1;by_cases hik:k=i'
           ·rw[if_pos hik,if_pos hkl]at hi';cases hi';rw[tB _ _ _ hle]at this;omega
           ·rw[if_neg hik]at hi';have:=hlen _ _ hi';omega
          by_cases hik:k=i'
          ·subst hik;rw[if_pos rfl,if_pos hkl]at hi';cases hi';rw[zi6 _ _ _ hle]at hj';rw[hall];split at hj'
           ·rename_i hc;rw[if_pos (by omega)];have hjx:j'-j<x.cells.size:=by omega
            refine⟨x.cells[j'-j],by rw[show k*sz+j'-(k*sz+j)=j'-j by omega,kg5 hjx],?_⟩;have hl':vs[j'-j]?=some vs[j'-j]:=ke7 (by omega);exact(d2 _ _ _ _ hj' hl' ((e3 _ _ _ hl' (kg5 hjx)).good g1)).good g2
           ·rename_i hc;rw[if_neg (by omega)];obtain⟨u,hu,hd⟩:=hl _ _ _ _ he hj';exact⟨u,hu,hd.good g2⟩
          ·rw[if_neg hik]at hi';obtain⟨u,hu,hd⟩:=hl _ _ _ _ hi' hj';refine⟨u,?_,hd.good g2⟩;rw[hall,if_neg,hu];rintro⟨a1,a2⟩;rcases Nat.lt_or_gt_of_ne hik with hlt|hgt
           ·have:k*sz+sz≤i'*sz:=by rw[←kr0];exact kj2 _ hlt
            omega
           ·have:i'*sz+sz≤k*sz:=by rw[←kr0];exact kj2 _ hgt
            omega
        |eptOld hid' hv'=>rw[hid]at hid';cases hid';omega
        |eptDead hid'=>rw[hid]at hid';cases hid'
       ·cases hs
      ·cases hs
     ·cases hs
    ·cases hs
   ·cases hs
  ·cases hs
end Go.Vt
