import Derived.Test.YtdabfkmhkoppcaaGreatDoorVtSound
import Derived.Laws.Concat
import Derived.Laws.Slices
import Derived.Laws.Pointers
import Derived.Laws.Small
import Derived.Laws.Strings
import Derived.Laws.Cover1
import Derived.Lib.Builder
set_option linter.all false
open Array renaming eq_empty_of_size_eq_zero→ks1,getElem?_eq_getElem→kg5,getElem?_extract_of_lt→ks6,getElem?_map→ks3,getElem_extract→ku0,getElem_mem→kp9,getElem_of_mem→kn3,toList_inj→kk0
open Bool renaming and_eq_true→kf8,false_eq_true→kl5
open List renaming getElem?_drop→kj1,getElem?_eq_getElem→ke7,getElem?_eq_some_iff→kd6,getElem?_map→ke6,getElem?_take_of_lt→kg4,length_cons→kf6,mem_of_getElem?→kd7
open Nat renaming add_zero→kp1,le_refl→kf2,le_trans→kq9,sub_self→kr1,zero_le→kg1
open Option renaming isSome_iff_exists→kt2,isSome_none→kv2,map_eq_some_iff→kj4,map_some→kh5
namespace Go.Vt
def jX (T:Sl):Option Operand→Option (Option V)
 |none=>some none
 |some x=>match opd T x with
  |some v=>some (some v)
  |none=>none
def eW (n:Nat):Option V→Option Nat
 |none=>some n
 |some (.one (.d (.int _ k)))=>if 0≤k then some k.toNat else none
 |_=>none
def lC (n:Nat) (xs:List (List D)):Bool:=xs.all fun e=>e.length == n
def eR (h:aB) (kd:TK) (el:Option EI) (v:V) (lo hi:Option V):Option V:=
 match kd,v with
 |.slice,.one .nils=>match eW 0 lo,eW 0 hi,el with
  |some l,some k,some _=>if l=0∧k=0 then some (.one .nils)else none
  |_,_,_=>none
 |.slice,.one (.d (.sl xs))=>match eW 0 lo,eW xs.length hi,el with
  |some l,some k,some e=>if l≤k∧k≤xs.length∧(l=0∨lC e.size xs=true)then some (.one (.d (.sl ((xs.take k).drop l))))else none
  |_,_,_=>none
 |.slice,.one (.own id ver len)=>match lo,eW len hi,h[id]?,el with
  |none,some k,some (.ar ty _ _ ver' _),some _=>if k≤len∧ver'=ver then some (.one (.own id ver k))else none
  |some x,some k,some (.ar ty _ sz ver' _),some e=>match eW 0 (some x)with
   |some l=>if l≤k∧k≤len∧ver'=ver∧sz=e.size then (if l=k then some (.one (.d (.sl [])))else some (.one (.osl id ver l (k-l))))else none
   |none=>none
  |_,_,_,_=>none
 |.slice,.one (.bsl id off len)=>match eW 0 lo,eW len hi,h[id]?,el with
  |some l,some k,some (.bx ty _),some e=>if e.size=1∧l≤k∧k≤len then (if l=k∧l≠0 then some (.one (.d (.sl [])))else some (.one (.bsl id (off+l) (k-l))))else none
  |_,_,_,_=>none
 |.str,.one (.d (.str s))=>match eW 0 lo,eW s.size hi with
  |some l,some k=>if l≤k∧k≤s.size then some (.one (.d (.str (s.extract l k))))else none
  |_,_=>none
 |_,_=>none
def gR (h:aB) (kd:TK):V→Option Nat
 |.one (.d (.sl xs))=>if kd = .slice then some xs.length else none
 |.one .nils=>if kd = .slice then some 0 else none
 |.one (.own id ver len)=>match h[id]? with
  |some (.ar ty _ _ ver' _)=>if kd = .slice∧ver'=ver then some len else none
  |_=>none
 |.one (.bsl id _ len)=>match h[id]? with
  |some (.bx ty _)=>if kd = .slice then some len else none
  |_=>none
 |.one (.osl id ver _ len)=>match h[id]? with
  |some (.ar ty _ _ ver' _)=>if kd = .slice∧ver'=ver then some len else none
  |_=>none
 |.one (.d (.str s))=>if kd = .str then some s.size else none
 |_=>none
def rK (i:TI) (f:Nat):V→Option V
 |.agg ls=>match i.kd,i.flds[f]? with
  |.struct,some F=>if F.1+F.2.1≤ls.length then (if F.2.2 then some (.agg ((ls.drop F.1).take F.2.1))else (match ls[F.1]? with|some l=>some (.one l)|none=>none))else none
  |_,_=>none
 |_=>none
def vT (i:TI) (n:Int):V→Option V
 |.agg ls=>if 0≤n then (match i.kd,i.flds[n.toNat]? with
  |.arr,some F=>if F.1+F.2.1≤ls.length then (if F.2.2 then some (.agg ((ls.drop F.1).take F.2.1))else (match ls[F.1]? with|some l=>some (.one l)|none=>none))else none
  |_,_=>none)else none
 |_=>none
def oW:V→Option V→Option V→Option V
 |.one (.d (.bool t)),some (.one (.d (.bool x))),some (.one (.d (.bool y)))=>some (.one (.d (.bool (cond t x y))))
 |.one (.d (.bool true)),x,_=>x
 |.one (.d (.bool false)),_,y=>y
 |_,_,_=>none
def lS:List V→Option (List L)
 |[]=>some []
 |.one l::r=>match lS r with
  |some ls=>some (l::ls)
  |none=>none
 |_=>none
def zi9 (P:Program) (h:aB) (s t:TypeId) (id off:Nat):Bool:=match h[id]? with
 |some (.bx (some T) cells)=>match P.underlying s,P.underlying t with
  |some (.pointer u),some .unsafePointer=>(match P.info? u with|some j=>j.size != 0|none=>false)&&decide (off<cells.length)
  |some .unsafePointer,some (.pointer u)=>(P.info? u).isSome&&liesAt P P.depth T (cells.length / P.cellsOf T) off u 1
  |_,_=>false
 |_=>false
def zK0 (P:Program) (h:aB) (t:TypeId) (op:BinOp):V→V→Option D
 |.one (.ptr id off),.one (.ptr id' off')=>if id=id'∧off=off' then (match h[id]?,P.underlying t with
  |some (.bx _ _),some (.pointer e)=>(match P.info? e,op with
   |some _,.eql=>some (.bool true)
   |some _,.neq=>some (.bool false)
   |_,_=>none)
  |_,_=>none)else none
 |_,_=>none
def fX (P:Program) (h:aB) (t:TypeId) (kd:TK) (op:BinOp) (u v:V):Option D:=match gZ h kd op u v with
 |some d=>some d
 |none=>match kd with
  |.ptr=>zK0 P h t op u v
  |_=>none
def vop (P:Program) (T:Sl) (h:aB) (o:Oper):Option (V×aB):=
 match o.op with
 |.move x|.assign x=>match opd T x with
  |some v=>some (v,h)
  |none=>none
 |.pick c x y=>match opd T c with
  |some b=>match oW b (opd T x) (opd T y)with
   |some v=>some (v,h)
   |none=>none
  |none=>none
 |.alloc e=>match ti P e with
  |some i=>match i.zero with
   |some z=>match gJ z with
    |some ls=>some (.one (.ptr h.length 0),h++[kN P e ls])
    |none=>none
   |none=>none
  |none=>none
 |.box e x=>match opd T x with
  |some v=>if jD v=true then (match gJ v with
   |some ls=>some (.one (.ptr h.length 0),h++[kN P e ls])
   |none=>none)else none
  |none=>none
 |.build t ps=>match ti P t,kP T ps.toList with
  |some i,some vs=>match sZ i vs with
   |some v=>some (v,h)
   |none=>none
  |_,_=>none
 |.load t x=>match ti P t,opd T x with
  |some i,some (.one l)=>match cI h i l with
   |some v=>some (v,h)
   |none=>none
  |_,_=>none
 |.store t p x=>match ti P t,opd T p,opd T x with
  |some i,some (.one l),some v=>if jD v=true then (match rI h i l v with
   |some h'=>some (.one .any,h')
   |none=>none)else none
  |_,_,_=>none
 |.nilCheck x=>match opd T x with
  |some (.one l)=>match iI h l with
   |some false=>some (.one l,h)
   |_=>none
  |_=>none
 |.binOp op t x y _=>match ti P t,opd T x,opd T y with
  |some i,some u,some v=>match fX P h t i.kd op u v with
   |some d=>some (.one (.d d),h)
   |none=>none
  |_,_,_=>none
 |.unOp op _ x=>match op,opd T x with
  |.not,some (.one (.d (.bool b)))=>some (.one (.d (.bool (!b))),h)
  |.neg,some (.one (.d (.int k n)))=>some (.one (.d (.int k (k.wrap (0-n)))),h)
  |_,_=>none
 |.convert s t x=>match ti P s,ti P t,opd T x with
  |some _,some j,some (.one (.d (.int _ n)))=>match j.kd with
   |.int k=>some (.one (.d (.int k (k.wrap n))),h)
   |_=>none
  |some _,some j,some (.one (.d (.str s)))=>match j.kd with
   |.str=>some (.one (.d (.str s)),h)
   |_=>none
  |some _,some j,some (.one (.ptr id off))=>match j.kd with
   |.int _=>none
   |.str=>none
   |_=>if zi9 P h s t id off=true then some (.one (.ptr id off),h)else none
  |_,_,_=>none
 |.makeFunc (.func f) first caps=>if first.size=0 then (match eO T caps.toList with
  |some vs=>match lS vs with
   |some ls=>some (.one (.fn f ls),h)
   |none=>none
  |none=>none)else if caps.size=0 then (match eO T first.toList with
  |some vs=>match lS vs with
   |some ls=>some (.one (.fb f ls),h)
   |none=>none
  |none=>none)else none
 |.slice t x lo hi none=>match ti P t,opd T x,jX T lo,jX T hi with
  |some i,some v,some l,some k=>match eR h i.kd i.el v l k with
   |some v=>some (v,h)
   |none=>none
  |_,_,_,_=>none
 |.slice t x none (some y) (some m)=>match ti P t,opd T x,opd T y,opd T m with
  |some i,some (.one .nils),some (.one (.d (.int _ p))),some (.one (.d (.int _ q)))=>if i.kd = .slice∧i.el.isSome=true∧p=0∧q=0 then some (.one .nils,h)else none
  |_,_,_,_=>none
 |.fieldAddr t x f=>match ti P t,opd T x with
  |some i,some (.one l)=>match i.kd,i.flds[f]? with
   |.struct,some F=>if F.2.1=0 then none else (match lR h F.1 l with
    |some q=>some (.one q,h)
    |none=>none)
   |_,_=>none
  |_,_=>none
 |.field t x f=>match ti P t,opd T x with
  |some i,some v=>match rK i f v with
   |some v=>some (v,h)
   |none=>none
  |_,_=>none
 |.indexAddr t x ix=>match ti P t,opd T x,opd T ix with
  |some i,some (.one l),some (.one (.d (.int _ n)))=>match i.el with
   |some e=>match jV h e.size n l with
    |some q=>some (.one q,h)
    |none=>none
   |none=>none
  |_,_,_=>none
 |.index t x ix=>match ti P t,opd T x,opd T ix with
  |some i,some (.one (.d (.str s))),some (.one (.d (.int _ n)))=>match i.kd with
   |.str=>if 0≤n then (match s[n.toNat]? with
    |some b=>some (.one (.d (.int .u8 b.toNat)),h)
    |none=>none)else none
   |_=>none
  |some i,some (.agg ls),some (.one (.d (.int _ n)))=>match vT i n (.agg ls)with
   |some v=>some (v,h)
   |none=>none
  |_,_,_=>none
 |.extract x k=>match opd T x with
  |some (.tup vs)=>match vs[k]? with
   |some v=>some (v,h)
   |none=>none
  |_=>none
 |.call { callee:=.builtin .len,args,argTypes }=>match args.toList,argTypes.toList with
  |[x],[t]=>match ti P t,opd T x with
   |some i,some v=>match gR h i.kd v with
    |some n=>some (.one (.d (.int .i64 n)),h)
    |none=>none
   |_,_=>none
  |_,_=>none
 |.call { callee:=.builtin .max,args,.. }=>match args.toList with
  |[x,y]=>match opd T x,opd T y with
   |some (.one (.d (.int k a))),some (.one (.d (.int _ b)))=>some (.one (.d (.int k (if b>a then b else a))),h)
   |_,_=>none
  |_=>none
 |.call { callee:=.builtin .min,args,.. }=>match args.toList with
  |[x,y]=>match opd T x,opd T y with
   |some (.one (.d (.int k a))),some (.one (.d (.int _ b)))=>some (.one (.d (.int k (if b<a then b else a))),h)
   |_,_=>none
  |_=>none
 |_=>none
variable {P:Program} {w:World} {μ:Pl} {h:aB} {T:Sl} {a:Act}
theorem zj0 (off:Nat):∀(vs:List Value) (k:Nat) (cs:Array Value),off+k+vs.length≤cs.size→
  ((vs.zipIdx k).foldl (fun(cs:Array Value) (x:Value×Nat)=>cs.setIfInBounds (off+x.2) x.1) cs).size=cs.size∧
  ∀j,((vs.zipIdx k).foldl (fun(cs:Array Value) (x:Value×Nat)=>cs.setIfInBounds (off+x.2) x.1) cs)[j]?=if off+k≤j∧j<off+k+vs.length then vs[j-(off+k)]? else cs[j]?
 |[],k,cs,_=>⟨rfl,fun j=>by rw[if_neg (by simp)];rfl⟩
 |v::r,k,cs,hl=>by
  simp only[kf6]at hl;obtain⟨h1,h2⟩:=zj0 off r (k+1) (cs.setIfInBounds (off+k) v) (by simp;omega);simp only[List.zipIdx_cons,List.foldl_cons];refine⟨by rw[h1];simp,fun j=>?_⟩;rw[h2 j];simp only[kf6];by_cases c1:off+(k+1)≤j∧j<off+(k+1)+r.length
  ·rw[if_pos c1,if_pos (by omega),show j-(off+k)=(j-(off+(k+1)))+1 by omega,List.getElem?_cons_succ]
  ·rw[if_neg c1];by_cases c2:j=off+k
   ·subst c2;rw[if_pos (by omega)];simp[show off+k<cs.size by omega]
   ·rw[if_neg (by omega),Array.getElem?_setIfInBounds_ne (by omega)]
theorem zM (s:dL w μ h T a):∀{ps:List (Nat×Operand)} {vs:List (Nat×V)},kP T ps=some vs→vs.length=ps.length∧∀(j:Nat) (k:Nat) (v:V) (q:Nat×Operand),vs[j]?=some (k,v)→ps[j]?=some q→q.1=k∧bF w μ h v (a.eval q.2)
 |[],vs,hv=>by cases hv;exact⟨rfl,by simp⟩
 |(k,x)::r,vs,hv=>by
  unfold kP at hv;split at hv
  ·rename_i v vs' hx hr;cases hv;obtain⟨h1,h2⟩:=zM s hr;refine⟨by simp[h1],?_⟩;intro j k' v' q hj hq;cases j with
   |zero=>simp at hj hq;obtain⟨rfl,rfl⟩:=hj;subst hq;exact⟨rfl,bS s hx⟩
   |succ j=>exact h2 j k' v' q (by simpa using hj) (by simpa using hq)
  ·cases hv
def zj1 (w:World) (μ:Pl) (h:aB) (ls:List L) (cs:Array Value):Prop:=
 ls.length=cs.size∧(∀v∈cs,v.oneCell'=true)∧∀(j:Nat) (l:L) (v:Value),ls[j]?=some l→cs[j]?=some v→bE w μ h l v
theorem zj2 (place:Nat→Option (Nat×Nat)) (fl:List (Nat×Nat×Bool)) (hpl:∀k F,fl[k]?=some F→place k=some (F.1,F.2.1)) :
  ∀(ps:List (Nat×V)) (xs:List (Nat×Value)) (ls:List L) (cs:Array Value) (out:List L),ps.length=xs.length→
   (∀(j:Nat) (p:Nat×V) (x:Nat×Value),ps[j]?=some p→xs[j]?=some x→x.1=p.1∧bF w μ h p.2 x.2)→zj1 w μ h ls cs→oR fl ls ps=some out→
   ∃cs',Instr.fill place cs xs=some cs'∧zj1 w μ h out cs'
 |[],[],ls,cs,out,_,_,hr,ho=>by cases ho;exact⟨cs,rfl,hr⟩
 |(k,v)::ps,(k',x)::xs,ls,cs,out,hl,hp,hr,ho=>by
  obtain⟨e,hx⟩:=hp 0 _ _ rfl rfl;simp only at e hx;subst e;unfold oR at ho;split at ho
  ·rename_i F vs hF hv;split at ho
   ·rename_i hc;obtain⟨hk,h1,h2⟩:=hc;obtain⟨e1,e2,e3⟩:=hx.cells' hv hk;have hsz:F.1+x.cells.size≤cs.size:=by rw[←hr.1];omega
    have hfold:=zj0 F.1 x.cells.toList 0 cs (by simpa using hsz);simp only[Array.length_toList,kp1]at hfold;have hrow:zj1 w μ h (lB ls F.1 vs) ((x.cells.toList.zipIdx 0).foldl (fun(cs:Array Value) (x:Value×Nat)=>cs.setIfInBounds (F.1+x.2) x.1) cs):=by
     refine⟨by rw[tB _ _ _ h2,hfold.1,hr.1],?_,?_⟩
     ·intro u hu;obtain⟨j,hj,rfl⟩:=kn3 hu;have:=hfold.2 j;rw[kg5 hj]at this;split at this
      ·exact e2 _ (by have:=(kd7 this.symm);simpa using this)
      ·exact hr.2.1 _ (Array.mem_of_getElem? this.symm)
     ·intro j l u hj hu;rw[zi6 _ _ _ h2]at hj;rw[hfold.2 j,←e1]at hu;split at hj
      ·rename_i hc;rw[if_pos hc]at hu;exact e3 _ _ _ hj (by simpa using hu)
      ·rename_i hc;rw[if_neg hc]at hu;exact hr.2.2 _ _ _ hj hu
    obtain⟨cs',hf,hr'⟩:=zj2 place fl hpl ps xs _ _ out (by simpa using hl) (fun j p x a b=>hp (j+1) p x (by simpa using a) (by simpa using b)) hrow ho;refine⟨cs',?_,hr'⟩;unfold Instr.fill;rw[hpl _ _ hF];simp only;rw[if_neg (by simp;omega)];have:Array.foldl (fun(cs:Array Value) (x:Value×Nat)=>cs.setIfInBounds (F.1+x.2) x.1) cs x.cells.zipIdx=(x.cells.toList.zipIdx 0).foldl (fun(cs:Array Value) (x:Value×Nat)=>cs.setIfInBounds (F.1+x.2) x.1) cs:=by
     rw[←Array.foldl_toList];congr 1;simp
    rw[←hf,←this]
   ·cases ho
  ·cases ho
 |[],_::_,_,_,_,hl,_,_,_=>by cases hl
 |_::_,[],_,_,_,hl,_,_,_=>by cases hl
theorem zK1:∀{fs:List Field} {fl:List (Nat×Nat×Bool)},rG P fs=some fl→fs.mapM (fun f=>(P.info? f.type).map fun i=>(f.offset,i.size))=some (fl.map fun F=>(F.1,F.2.1))
 |[],fl,hf=>by cases hf;rfl
 |f::r,fl,hf=>by
  unfold rG at hf;split at hf
  ·rename_i y ys hy hys;cases hf;obtain⟨I,d,h1,h2,rfl⟩:=zi2 hy;simp[List.mapM_cons,h1,zK1 hys]
  ·cases hf
theorem zK2 {d:TypeDesc} (hk:oQ d = .arr):∃n e,d = .array n e:=by cases d<;>first|exact⟨_,_,rfl⟩|cases hk
theorem zK3 {n k j:Nat} (h:(List.range n)[k]?=some j):k<n∧j=k:=by
 have hl:=(kd6.1 h).1;simp at hl;rw[List.getElem?_range hl]at h;exact⟨hl,(Option.some.inj h).symm⟩
theorem jf2 {t:TypeId} {i:TI} (ht:ti P t=some i) {ps:List (Nat×V)} {xs:List (Nat×Value)} {v:V} (hl:ps.length=xs.length)
  (hp:∀(j:Nat) (p:Nat×V) (x:Nat×Value),ps[j]?=some p→xs[j]?=some x→x.1=p.1∧bF w μ h p.2 x.2) (hv:sZ i ps=some v) :
  ∃x,(Instr.build t xs.toArray).run P w = .ok x w∧bF w μ h v x:=by
 obtain⟨I,d,h1,h2,h3,h4,h5,h6,h7,h8,_,_,h10⟩:=fF ht;unfold sZ at hv;split at hv
 ·rename_i z hk hz;obtain⟨fs,rfl⟩:=zi5 (h7▸hk);have hfl:=h8 fs rfl;cases hout:oR i.flds z ps with
  |none=>simp[hout]at hv
  |some out=>
   simp[hout]at hv;subst hv;rw[hz]at h6;cases hI:I.zero with
   |none=>simp[hI]at h6
   |some zx=>
    have hzx:iT zx=some (.agg z):=by simpa[hI]using h6.symm
    have hr:bF w μ h (.agg z) zx:=vO hzx;cases hr with
    |@agg _ cs hr1 hr2 hr3=>
     obtain⟨cs',hf,hr'⟩:=zj2 (w:=w) (μ:=μ) (h:=h) (fun k=>(i.flds.map fun F=>(F.1,F.2.1))[k]?) i.flds (fun k F hF=>by rw[ke6,hF];rfl) ps xs z cs out hl hp ⟨hr1,hr3,hr2⟩ hout;refine⟨.agg cs',?_,.agg hr'.1 hr'.2.2 hr'.2.1⟩;apply run_build;unfold Program.built;simp only[h1,h2,hI,zK1 hfl];rw[←hf];simp[Value.cells]
 ·rename_i z hk hz;obtain⟨n,e,rfl⟩:=zK2 (h7▸hk);obtain⟨J,dd,g1,g2,hfl⟩:=h10 n e rfl;cases hout:oR i.flds z ps with
  |none=>simp[hout]at hv
  |some out=>
   simp[hout]at hv;subst hv;rw[hz]at h6;cases hI:I.zero with
   |none=>simp[hI]at h6
   |some zx=>
    have hzx:iT zx=some (.agg z):=by simpa[hI]using h6.symm
    have hr:bF w μ h (.agg z) zx:=vO hzx;cases hr with
    |@agg _ cs hr1 hr2 hr3=>
     obtain⟨cs',hf,hr'⟩:=zj2 (w:=w) (μ:=μ) (h:=h) (fun k=>some (k*J.size,J.size)) i.flds (fun k F hF=>by
      rw[hfl,ke6,kj4]at hF;obtain⟨k',hk',rfl⟩:=hF;obtain⟨_,rfl⟩:=zK3 hk';rfl) ps xs z cs out hl hp ⟨hr1,hr3,hr2⟩ hout
     refine⟨.agg cs',?_,.agg hr'.1 hr'.2.2 hr'.2.1⟩;apply run_build;unfold Program.built;simp only[h1,h2,hI,g1];rw[←hf];simp[Value.cells]
 ·cases hv
theorem zK4 (x y:ByteArray):(x.toList == y.toList)=decide (x=y):=by
 rw[Bool.eq_iff_iff,beq_iff_eq,decide_eq_true_iff,ByteArray.toList_eq,ByteArray.toList_eq];exact⟨fun h=>ByteArray.ext (kk0.mp h),fun h=>by rw[h]⟩
theorem zK5 {d:TypeDesc} (hk:oQ d = .bool):d = .bool:=by cases d<;>first|rfl|cases hk
theorem zK6 {d:TypeDesc} (hk:oQ d = .ptr):∃e,d = .pointer e:=by cases d<;>first|exact⟨_,rfl⟩|cases hk
theorem zK7 {l:L} {b:Bool} {x:Value} (hb:iI h l=some b) (hx:bE w μ h l x) :
  (b=true∧(x = .pointer none∨x = .nilFunc))∨(b=false∧((∃ad,x = .pointer (some ad))∨∃f cs,x = .func (.func f) #[] cs)):=by
 cases hx with
 |d hd=>cases hd<;>first|(cases hb;exact .inl ⟨rfl,.inl rfl⟩)|cases hb
 |nils=>cases hb
 |own=>cases hb
 |ownNil=>cases hb
 |ownOld=>cases hb
 |ownDead=>cases hb
 |ptr hid _ _=>simp only[iI,hid]at hb;cases hb;exact .inr ⟨rfl,.inl ⟨_,rfl⟩⟩
 |ptrDead hid=>simp only[iI,hid]at hb;cases hb
 |ept hid _ _ _=>simp only[iI,hid,if_true]at hb;cases hb;exact .inr ⟨rfl,.inl ⟨_,rfl⟩⟩
 |eptOld hid hv=>simp only[iI,hid]at hb;rw[if_neg (by omega)]at hb;cases hb
 |eptDead hid=>simp only[iI,hid]at hb;cases hb
 |ref=>cases hb;exact .inr ⟨rfl,.inl ⟨_,rfl⟩⟩
 |fn=>cases hb;exact .inr ⟨rfl,.inr ⟨_,_,rfl⟩⟩
 |nilf=>cases hb;exact .inl ⟨rfl,.inr rfl⟩
 |any=>cases hb
 |bsl=>cases hb
 |bslDead=>cases hb
 |osl=>cases hb
 |oslOld=>cases hb
 |oslDead=>cases hb
 |nili=>cases hb
 |fb=>cases hb
theorem jf3 {M:Nat→Prop} {v:Value} (hd:cQ w M .nilp v):v = .pointer none:=by cases hd;rfl
theorem jf4 {op:BinOp} {k:IntKind} {a b:Int} {d:D} (hd:iH op k a b=some d) (t:TypeId):∃z,(binOp op t (.int k a) (.int k b)).run P w = .ok z w∧bF w μ h (.one (.d d)) z:=by
 cases op<;>first|(cases hd;done)|skip
 ·cases hd;exact⟨_,by rw[binOp_add];rfl,.one rfl (.d (.int _ _))⟩
 ·cases hd;exact⟨_,by rw[binOp_sub];rfl,.one rfl (.d (.int _ _))⟩
 ·cases hd;exact⟨_,by rw[binOp_mul];rfl,.one rfl (.d (.int _ _))⟩
 ·simp only[iH]at hd;split at hd
  ·rename_i hc;cases hd;refine⟨_,?_,.one rfl (.d (.int _ _))⟩;show(Op.shift .shr k a k b).run P w=_;unfold Op.shift;rw[if_neg (by omega)];simp only[Nat.min_eq_left hc.2];rfl
  ·cases hd
 ·cases hd;exact⟨_,by rw[binOp_eql];rfl,.one rfl (.d (.bool _))⟩
 ·cases hd;exact⟨_,by rw[binOp_neq];rfl,.one rfl (.d (.bool _))⟩
 ·cases hd;exact⟨_,by rw[binOp_lss];rfl,.one rfl (.d (.bool _))⟩
 ·cases hd;exact⟨_,by rw[binOp_leq];rfl,.one rfl (.d (.bool _))⟩
 ·cases hd;exact⟨_,by rw[binOp_gtr];rfl,.one rfl (.d (.bool _))⟩
 ·cases hd;exact⟨_,by rw[binOp_geq];rfl,.one rfl (.d (.bool _))⟩
theorem jf5 {op:BinOp} {a b:ByteArray} {d:D} (hd:mU op a b=some d) (t:TypeId):∃z,(binOp op t (.string a) (.string b)).run P w = .ok z w∧bF w μ h (.one (.d d)) z:=by
 cases op<;>first|(cases hd;done)|skip
 ·simp only[mU]at hd;split at hd
  ·rename_i hs;cases hd;exact⟨_,by rw[binOp_string_add,run_string_add_sum w a b hs],.one rfl (.d (.str _))⟩
  ·cases hd
 ·cases hd;exact⟨_,by rw[binOp_string_eql,zK4];rfl,.one rfl (.d (.bool _))⟩
 ·cases hd;exact⟨_,by rw[binOp_string_neq,zK4];rfl,.one rfl (.d (.bool _))⟩
 ·cases hd;exact⟨_,by rw[binOp_string_lss];rfl,.one rfl (.d (.bool _))⟩
 ·cases hd;exact⟨_,by rw[binOp_string_leq];rfl,.one rfl (.d (.bool _))⟩
 ·cases hd;exact⟨_,by rw[binOp_string_gtr];rfl,.one rfl (.d (.bool _))⟩
 ·cases hd;exact⟨_,by rw[binOp_string_geq];rfl,.one rfl (.d (.bool _))⟩
theorem zj3 {op:BinOp} {t:TypeId} {ox oy:Operand} {x y:Value} (hx:x≠.nilIface) (hx':∀cs,x≠.agg cs):eqGuard op t ox oy x y=pure ():=by
 unfold eqGuard;cases op<;>first|rfl|(cases x<;>first|rfl|exact absurd rfl hx|exact absurd rfl (hx' _))
theorem jf6 {t:TypeId} {i:TI} (ht:ti P t=some i) {op:BinOp} {u v:V} {x y:Value} {d:D} (hx:bF w μ h u x) (hy:bF w μ h v y) (hd:gZ h i.kd op u v=some d) (ox oy:Operand) :
  ∃z,(do eqGuard op t ox oy x y;binOp op t x y:Sem Value).run P w = .ok z w∧bF w μ h (.one (.d d)) z:=by
 obtain⟨I,dd,h1,h2,h3,h4,h5,h6,h7,_⟩:=fF ht;have go:∀{z:Value},x≠.nilIface→(∀cs,x≠.agg cs)→(binOp op t x y).run P w = .ok z w→(do eqGuard op t ox oy x y;binOp op t x y:Sem Value).run P w = .ok z w:=by
  intro z a b c;rw[zj3 a b];exact c
 unfold gZ at hd;split at hd
 ·split at hd
  ·rename_i k a k' b hk;subst hk;cases hx with|one _ hx=>cases hx with|d hx=>cases hx with
   |int=>
   cases hy with|one _ hy=>cases hy with|d hy=>cases hy with
   |int=>
   obtain⟨z,hz,hr⟩:=jf4 (P:=P) (w:=w) (μ:=μ) (h:=h) hd t;exact⟨z,go (by simp) (by simp) hz,hr⟩
  ·cases hd
 ·cases hx with|one _ hx=>cases hx with|d hx=>cases hx with
  |str=>
  cases hy with|one _ hy=>cases hy with|d hy=>cases hy with
  |str=>
  obtain⟨z,hz,hr⟩:=jf5 (P:=P) (w:=w) (μ:=μ) (h:=h) hd t;exact⟨z,go (by simp) (by simp) hz,hr⟩
 ·cases hx with|one _ hx=>cases hx with|d hx=>cases hx with
  |bool=>
  cases hy with|one _ hy=>cases hy with|d hy=>cases hy with
  |bool=>
  split at hd
  ·rename_i hk;have hu:P.underlying t=some .bool:=by rw[h2];rw[h7]at hk;rw[zK5 hk]
   cases hd;exact⟨_,go (by simp) (by simp) (run_eql_bool w t _ _ hu),.one rfl (.d (.bool _))⟩
  ·rename_i hk;have hu:P.underlying t=some .bool:=by rw[h2];rw[h7]at hk;rw[zK5 hk]
   cases hd;exact⟨_,go (by simp) (by simp) (by rw[run_neq_bool w t _ _ hu];rfl),.one rfl (.d (.bool _))⟩
  ·cases hd
 ·rename_i l;have hy':y = .pointer none:=by cases hy with|one _ hy=>cases hy with|d hy=>exact jf3 hy
  subst hy';have fin:∀b,tA h l=some b→∃p,x = .pointer p∧p.isNone=b:=by
   intro b hb;have hl:bE w μ h l x:=by cases hx with|one _ hx=>exact hx|top=>exact .any
   unfold tA at hb;split at hb
   ·cases hb
   ·cases hb
   ·rename_i hf hn;rcases zK7 hb hl with⟨rfl,rfl|rfl⟩|⟨rfl,⟨ad,rfl⟩|⟨f,cs,rfl⟩⟩
    ·exact⟨_,rfl,rfl⟩
    ·cases hl with
     |nilf=>exact absurd rfl hn
     |d hd=>cases hd
     |any=>cases hb
     |_=>simp_all [iI]
    ·exact⟨_,rfl,rfl⟩
    ·cases hl with
     |fn=>exact absurd rfl (hf _ _)
     |d hd=>cases hd
     |any=>cases hb
     |_=>simp_all [iI]
  split at hd
  ·rename_i b hk hb;cases hd;obtain⟨p,rfl,hp⟩:=fin b hb;rw[h7]at hk;obtain⟨e,rfl⟩:=zK6 hk;exact⟨_,go (by simp) (by simp) (run_eql_pointer_nil w t p (by simp[Program.pointee,h2])),by rw[hp];exact .one rfl (.d (.bool _))⟩
  ·rename_i b hk hb;cases hd;obtain⟨p,rfl,hp⟩:=fin b hb;rw[h7]at hk;obtain⟨e,rfl⟩:=zK6 hk;exact⟨_,go (by simp) (by simp) (run_neq_pointer_nil w t p (by simp[Program.pointee,h2])),by rw[hp];exact .one rfl (.d (.bool _))⟩
  ·cases hd
 ·cases hd
variable {P:Program} {w:World} {μ:Pl} {h:aB} {T:Sl} {a:Act}
theorem zj4 (s:dL w μ h T a):∀{ps:List Operand} {vs:List V},eO T ps=some vs→vs.length=ps.length∧∀(j:Nat) (v:V) (q:Operand),vs[j]?=some v→ps[j]?=some q→bF w μ h v (a.eval q)
 |[],vs,hv=>by cases hv;exact⟨rfl,by simp⟩
 |x::r,vs,hv=>by
  unfold eO at hv;split at hv
  ·rename_i v vs' hx hr;cases hv;obtain⟨h1,h2⟩:=zj4 s hr;refine⟨by simp[h1],?_⟩;intro j v' q hj hq;cases j with
   |zero=>simp at hj hq;subst hj;subst hq;exact bS s hx
   |succ j=>exact h2 j v' q (by simpa using hj) (by simpa using hq)
  ·cases hv
theorem zj5:∀{vs:List V} {ls:List L},lS vs=some ls→vs=ls.map .one
 |[],ls,hv=>by cases hv;rfl
 |v::r,ls,hv=>by
  cases v with
  |one l=>
   unfold lS at hv;split at hv
   ·rename_i ls' hr;cases hv;rw[zj5 hr];rfl
   ·cases hv
  |agg _=>cases hv
  |tup _=>cases hv
theorem bF.l {l:L} {x:Value} (hx:bF w μ h (.one l) x):bE w μ h l x:=by
 cases hx with
 |one _ hl=>exact hl
 |top=>exact .any
theorem bF.int {k:IntKind} {n:Int} {x:Value} (hx:bF w μ h (.one (.d (.int k n))) x):x = .int k n:=by
 cases hx with|one _ hx=>cases hx with|d hx=>cases hx with|int=>rfl
theorem bF.bool {b:Bool} {x:Value} (hx:bF w μ h (.one (.d (.bool b))) x):x = .bool b:=by
 cases hx with|one _ hx=>cases hx with|d hx=>cases hx with|bool=>rfl
theorem bF.str {b:ByteArray} {x:Value} (hx:bF w μ h (.one (.d (.str b))) x):x = .string b:=by
 cases hx with|one _ hx=>cases hx with|d hx=>cases hx with|str=>rfl
theorem zK8 (T:Sl) (s:dL w μ h T a) {x:Option Operand} {l:Option V} (hx:jX T x=some l) {n y:Nat} (d:Nat) (hn:eW d l=some n) (hle:n≤y) (code:BoundsCode) :
  (∃v,x.map a.eval=some v∧(Instr.sliceBound v y code).run P w = .ok n w)∨(x.map a.eval=none∧n=d):=by
 cases x with
 |none=>cases hx;cases hn;exact .inr ⟨rfl,rfl⟩
 |some x=>
  unfold jX at hx;simp only at hx;split at hx
  ·rename_i v hv;cases hx;unfold eW at hn;split at hn
   ·rename_i heq;cases heq
   ·rename_i k n' heq;cases heq;split at hn
    ·rename_i h0;cases hn;have:=(bS s hv).int;refine .inl ⟨_,rfl,?_⟩;rw[this];exact run_sliceBound w k n' y code h0 (by omega)
    ·cases hn
   ·cases hn
  ·cases hx
theorem tC (T:Sl) (s:dL w μ h T a) {lo hi:Option Operand} {l k:Option V} (hlo:jX T lo=some l) (hhi:jX T hi=some k) {n m len cap:Nat} (isS:Bool)
  (hl:eW 0 l=some n) (hk:eW len k=some m) (h1:n≤m) (h2:m≤len) (h3:len≤cap) :
  (Instr.sliceBounds isS len cap (lo.map a.eval) (hi.map a.eval) none).run P w = .ok (n,m,cap) w:=by
 have b1:=fun code=>zK8 (P:=P) (w:=w) T s hlo (y:=m) 0 hl h1 code;have b2:=fun code=>zK8 (P:=P) (w:=w) T s hhi (y:=cap) len hk (by omega) code;unfold Instr.sliceBounds;rcases b2 (if isS then .sliceAcap else .sliceAlen)with⟨v2,e2,r2⟩|⟨e2,rfl⟩<;>rcases b1 .sliceB with⟨v1,e1,r1⟩|⟨e1,rfl⟩
 ·simp only[e1,e2,Sem.run_bind,Sem.run_pure,Result.andThen,r2,kv2,kl5,if_false,r1]
 ·simp only[e1,e2,Sem.run_bind,Sem.run_pure,Result.andThen,r2]
 ·simp only[e1,e2,Sem.run_bind,Sem.run_pure,Result.andThen,kv2,kl5,if_false,r1]
 ·simp only[e1,e2,Sem.run_bind,Sem.run_pure,Result.andThen]
theorem zN {n:Nat} {xs:List (List D)} (ha:lC n xs=true) {i:Nat} {e:List D} (hi:xs[i]?=some e):e.length=n:=by
 have:=List.all_eq_true.1 ha e (kd7 hi);simpa using this
theorem jf7 (b m cap sz:Nat):sliced (some ⟨b,0,none⟩) 0 m cap sz = .slice (some ⟨b,0,none⟩) m cap:=by
 unfold sliced;split<;>simp[Addr.add]
theorem jf8 {t:TypeId} {i:TI} (ht:ti P t=some i) (s:dL w μ h T a) {v u:V} {x:Value} (hx:bF w μ h v x) {lo hi:Option Operand} {l k:Option V} (hlo:jX T lo=some l) (hhi:jX T hi=some k)
  (hv:eR h i.kd i.el v l k=some u):∃y,(Instr.sliceAt t x (lo.map a.eval) (hi.map a.eval) none).run P w = .ok y w∧bF w μ h u y:=by
 obtain⟨I,d,h1,h2,h3,h4,h5,h6,h7,h8,h9,h10,_⟩:=fF ht;unfold eR at hv;split at hv
 ·rename_i hkd;split at hv
  ·rename_i n m e hn hm hel;split at hv
   ·rename_i hc;obtain⟨rfl,rfl⟩:=hc;cases hv;rw[h7]at hkd;obtain⟨et,rfl⟩:=oV hkd;have hE:gW P et=some e:=by rw[←h9 et rfl];exact hel
    have het:P.elem t=et:=by simp[Program.elem,h2]
    have ht':P.underlying t=some (.slice (P.elem t)):=by rw[het];exact h2
    cases hx with|one _ hx=>cases hx with|nils=>
    refine⟨.slice none 0 0,?_,.one rfl .nils⟩;rw[run_sliceAt_slice w t _ _ _ _ ht',run_slice_any w t none 0 0 ht',tC T s hlo hhi true hn hm (kf2 _) (kf2 _) (kf2 _),het];simp[Result.andThen,nR hE,sliced]
   ·cases hv
  ·cases hv
 ·rename_i xs hkd;split at hv
  ·rename_i n m e hn hm hel;split at hv
   ·rename_i hc;obtain⟨c1,c2,c3⟩:=hc;cases hv;rw[h7]at hkd;obtain⟨et,rfl⟩:=oV hkd;have hE:gW P et=some e:=by rw[←h9 et rfl];exact hel
    have het:P.elem t=et:=by simp[Program.elem,h2]
    have ht':P.underlying t=some (.slice (P.elem t)):=by rw[het];exact h2
    have run:∀(A:Option Addr) (len cap:Nat),xs.length=len→len≤cap→(Instr.sliceAt t (.slice A len cap) (lo.map a.eval) (hi.map a.eval) none).run P w = .ok (sliced A n m cap e.size) w:=by
     intro A len cap el hcap;rw[run_sliceAt_slice w t _ _ _ _ ht',run_slice_any w t A len cap ht',tC T s hlo hhi true hn (by rw[←el];exact hm) c1 (by omega) hcap,het];simp only[Result.andThen,nR hE]
    cases hx with|one _ hx=>cases hx with|d hx=>cases hx with
    |sl0 A cap=>
     refine⟨_,run A 0 cap rfl (kg1 _),?_⟩;simp at c2;have e1:n=0:=by omega
     subst e1;subst c2;exact .one rfl (.d (by simpa[sliced]using cQ.sl0 _ _))
    |sl sz _ b off cap vs hne hb hlt hcap hlen hcell hd=>
     refine⟨_,run _ _ cap rfl hcap,?_⟩;unfold sliced;by_cases hnm:n=m
     ·subst hnm;have:(xs.take n).drop n=[]:=by simp
      rw[this,kr1];exact .one rfl (.d (.sl0 _ _))
     ·rw[if_neg (by omega)];simp only[kh5,fW];have hlen':((xs.take m).drop n).length=m-n:=by simp;omega
      have hget:∀{q:Nat} {el:List D},((xs.take m).drop n)[q]?=some el→xs[n+q]?=some el:=by
       intro q el hq;have hlt':q<m-n:=by have:=(kd6.1 hq).1;omega
       rw[kj1,kg4 (by omega)]at hq;exact hq
      have hstep:n*e.size=n*sz:=by
       rcases c3 with rfl|c3
       ·simp
       ·have hx0:0<xs.length:=by omega
        have e1:=hlen 0 _ (ke7 hx0);have e2:=zN c3 (ke7 hx0);rw[←e1,←e2]
      have:=cQ.sl (w:=w) (M:=Mut μ h) sz ((xs.take m).drop n) b (off+n*sz) (cap-n) (fun i j=>vs (n+i) j) (by intro hh;rw[hh]at hlen';simp at hlen';omega) hb hlt (by omega)
       (fun q el hq=>hlen _ _ (hget hq))
       (fun q j el y hq hj=>by
        have:=hcell _ _ _ _ (hget hq) hj;rw[←this,Nat.add_mul];congr 2;omega)
       (fun q j el y hq hj=>hd _ _ _ _ (hget hq) hj)
      rw[hlen']at this;rw[hstep];exact .one rfl (.d this)
   ·cases hv
  ·cases hv
 ·rename_i id ver len hkd;split at hv
  ·rename_i m ty fz sz ver' xs e hm hid hel;split at hv
   ·rename_i hc;obtain⟨c1,rfl⟩:=hc;cases hv;rw[h7]at hkd;obtain⟨et,rfl⟩:=oV hkd;have hE:gW P et=some e:=by rw[←h9 et rfl];exact hel
    have het:P.elem t=et:=by simp[Program.elem,h2]
    have ht':P.underlying t=some (.slice (P.elem t)):=by rw[het];exact h2
    have run:∀(A:Option Addr) (cap:Nat),len≤cap→(Instr.sliceAt t (.slice A len cap) (lo.map a.eval) (hi.map a.eval) none).run P w = .ok (sliced A 0 m cap e.size) w:=by
     intro A cap hcap;rw[run_sliceAt_slice w t _ _ _ _ ht',run_slice_any w t A len cap ht',tC T s hlo hhi true (n:=0) rfl hm (kg1 _) c1 hcap,het];simp only[Result.andThen,nR hE]
    cases hx with|one _ hx=>
    cases hx with
    |own hid' hl hμ hcap hb hcs=>
     refine⟨_,run _ _ hcap,?_⟩;rw[jf7];exact .one rfl (.own hid' (kq9 c1 hl) hμ (kq9 c1 hcap) hb hcs)
    |ownNil hid' hμ=>
     refine⟨_,run _ _ (kf2 _),?_⟩;have e0:m=0:=by omega
     subst e0;exact .one rfl (by simpa[sliced]using bE.ownNil hid' hμ)
    |ownOld hid' hv=>rw[hid]at hid';cases hid';omega
    |ownDead hid'=>rw[hid]at hid';cases hid'
   ·cases hv
  ·rename_i lo0 m ty fz sz ver' xs e hm hid hel;split at hv
   ·rename_i n hn;split at hv
    ·rename_i hc;obtain⟨c1,c2,rfl,c3⟩:=hc;rw[h7]at hkd;obtain⟨et,rfl⟩:=oV hkd;have hE:gW P et=some e:=by rw[←h9 et rfl];exact hel
     have het:P.elem t=et:=by simp[Program.elem,h2]
     have ht':P.underlying t=some (.slice (P.elem t)):=by rw[het];exact h2
     have run:∀(A:Option Addr) (cap:Nat),len≤cap→(Instr.sliceAt t (.slice A len cap) (lo.map a.eval) (hi.map a.eval) none).run P w = .ok (sliced A n m cap e.size) w:=by
      intro A cap hcap;rw[run_sliceAt_slice w t _ _ _ _ ht',run_slice_any w t A len cap ht',tC T s hlo hhi true hn hm c1 c2 hcap,het];simp only[Result.andThen,nR hE]
     cases hx with|one _ hx=>
     cases hx with
     |own hid' hl hμ hcap hb hcs=>
      rw[hid]at hid';cases hid';refine⟨_,run _ _ hcap,?_⟩;unfold sliced;split at hv
      ·rename_i hnm;subst hnm;cases hv;rw[kr1];exact .one rfl (.d (.sl0 _ _))
      ·rename_i hnm;cases hv;rw[if_neg (by omega)];simp only[kh5,fW,Nat.zero_add,←c3];exact .one rfl (.osl hid (by omega) hμ (by omega) hb (by rw[Nat.add_sub_cancel' (by omega)];exact hcs))
     |ownNil hid' hμ=>
      have e0:m=0:=by omega
      have e1:n=0:=by omega
      subst e0 e1;refine⟨_,run _ _ (kf2 _),?_⟩;rw[if_pos rfl]at hv;cases hv;exact .one rfl (by simpa[sliced]using bE.d (.sl0 _ _))
     |ownOld hid' hv=>rw[hid]at hid';cases hid';omega
     |ownDead hid'=>rw[hid]at hid';cases hid'
    ·cases hv
   ·cases hv
  ·cases hv
 ·rename_i id off len hkd;split at hv
  ·rename_i n m ty cells e hn hm hid hel;split at hv
   ·rename_i hc;obtain⟨c0,c1,c2⟩:=hc;rw[h7]at hkd;obtain⟨et,rfl⟩:=oV hkd;have hE:gW P et=some e:=by rw[←h9 et rfl];exact hel
    have het:P.elem t=et:=by simp[Program.elem,h2]
    have ht':P.underlying t=some (.slice (P.elem t)):=by rw[het];exact h2
    have run:∀(A:Option Addr) (cap:Nat),len≤cap→(Instr.sliceAt t (.slice A len cap) (lo.map a.eval) (hi.map a.eval) none).run P w = .ok (sliced A n m cap e.size) w:=by
     intro A cap hcap;rw[run_sliceAt_slice w t _ _ _ _ ht',run_slice_any w t A len cap ht',tC T s hlo hhi true hn hm c1 c2 hcap,het];simp only[Result.andThen,nR hE]
    cases hx with|one _ hx=>cases hx with
    |bslDead hid'=>rw[hid]at hid';cases hid'
    |@bsl _ _ _ _ _ _ b cap cs T' hid' hl hμ hcap hb hcs=>
     rw[hid]at hid';cases hid';refine⟨_,run _ _ hcap,?_⟩;unfold sliced;split at hv
     ·rename_i hnm;obtain⟨hnm,_⟩:=hnm;subst hnm;cases hv;rw[kr1];exact .one rfl (.d (.sl0 _ _))
     ·rename_i hnm;cases hv;by_cases h0:n=0
      ·subst h0;have:(⟨b,off,none⟩:Addr).add 0=⟨b,off,none⟩:=by rw[fW];rfl
       simp only[kh5,Nat.zero_mul,this,ite_self,kp1,Nat.sub_zero];exact .one rfl (.bsl hid (by omega) hμ (by omega) hb (by omega))
      ·rw[if_neg (by omega),c0,Nat.mul_one];simp only[kh5,fW];exact .one rfl (.bsl hid (by omega) hμ (by omega) hb (by omega))
   ·cases hv
  ·cases hv
 ·rename_i str hkd;split at hv
  ·rename_i n m hn hm;split at hv
   ·rename_i hc;cases hv;rw[h7]at hkd;have:=zL hkd;subst this;cases hx with|one _ hx=>cases hx with|d hx=>cases hx with
    |str=>
    refine⟨_,?_,.one rfl (.d (.str _))⟩;rw[run_sliceAt_string w t _ _ _ _ h2];unfold Instr.slice;simp only[Sem.run_bind,run_underlying h2,Result.andThen];simp[tC T s hlo hhi false hn hm hc.1 hc.2 (kf2 _),Result.andThen]
   ·cases hv
  ·cases hv
 ·cases hv
theorem jf9 {t:TypeId} {i:TI} (ht:ti P t=some i) {f:Nat} {v u:V} {x:Value} (hx:bF w μ h v x) (hv:rK i f v=some u):∃y,(Instr.field t x f).run P w = .ok y w∧bF w μ h u y:=by
 obtain⟨I,d,h1,h2,h3,h4,h5,h6,h7,h8,h9,h10,_⟩:=fF ht;unfold rK at hv;split at hv
 ·rename_i ls;split at hv
  ·rename_i F hk hF;split at hv
   ·rename_i hc;rw[h7]at hk;obtain⟨fs,rfl⟩:=zi5 hk;obtain⟨FF,hF1,hF2⟩:=zi1 (h8 fs rfl) hF;obtain⟨IF,dF,hF3,hF4,rfl⟩:=zi2 hF2;simp only at hc hv;have hF1':fs[f]?=some FF:=by simpa using hF1
    cases hx with
    |@agg _ cs e1 e2 e3=>
     have hs:(sizeOf FF.type).run P w = .ok IF.size w:=by simp[sizeOf,typeInfo,hF3,Result.andThen]
     have hagg:(isAgg FF.type).run P w = .ok (nQ dF) w:=by
      simp only[isAgg,Sem.run_bind,run_underlying hF4,Result.andThen];cases dF<;>rfl
     split at hv
     ·rename_i hag;cases hv;refine⟨.agg (cs.extract FF.offset (FF.offset+IF.size)),?_,?_⟩
      ·simp only[Instr.field,Sem.run_bind,run_underlying h2,Result.andThen,hF1',asAgg,Sem.run_pure,part,hagg,hag,if_true,hs]
      ·refine .agg (by simp;omega) ?_ ?_
       ·intro j l u hj hu;have hjs:j<IF.size:=by
         have:=(kd6.1 hj).1;simp at this;omega
        rw[kg4 hjs,kj1]at hj;rw[ks6 (by omega)]at hu;exact e2 _ _ _ hj ((kg5 (by omega)).trans hu)
       ·intro u hu;obtain⟨j,hj,rfl⟩:=kn3 hu;rw[ku0];exact e3 _ (kp9 _)
     ·rename_i hag;split at hv
      ·rename_i l hl;cases hv;have hlt:FF.offset<cs.size:=by have:=(kd6.1 hl).1;omega
       refine⟨cs[FF.offset],?_,.one (e3 _ (kp9 _)) (e2 _ _ _ hl (kg5 hlt))⟩;simp only[Instr.field,Sem.run_bind,run_underlying h2,Result.andThen,hF1',asAgg,Sem.run_pure,part,hagg,hag];simp[kg5 hlt]
      ·cases hv
   ·cases hv
  ·cases hv
 ·cases hv
theorem jg0 {t:TypeId} {i:TI} (ht:ti P t=some i) {k:IntKind} {n:Int} {v u:V} {x:Value} (hx:bF w μ h v x) (hv:vT i n v=some u):∃y,(Instr.index t x (.int k n)).run P w = .ok y w∧bF w μ h u y:=by
 obtain⟨I,d,h1,h2,h3,h4,h5,h6,h7,h8,h9,h10,h11⟩:=fF ht;unfold vT at hv;split at hv
 ·rename_i ls;split at hv
  ·rename_i hn0;split at hv
   ·rename_i F hk hF;split at hv
    ·rename_i hc;rw[h7]at hk;obtain⟨m,e,rfl⟩:=zK2 hk;obtain⟨J,dd,g1,g2,hfl⟩:=h11 m e rfl;rw[hfl,ke6,kj4]at hF;obtain⟨k',hk',rfl⟩:=hF;obtain⟨hlm,rfl⟩:=zK3 hk';have hnm:n<(m:Int):=by omega
     simp only at hc hv;cases hx with
     |@agg _ cs e1 e2 e3=>
      have hs:(sizeOf e).run P w = .ok J.size w:=by simp[sizeOf,typeInfo,g1,Result.andThen]
      have hagg:(isAgg e).run P w = .ok (nQ dd) w:=by
       simp only[isAgg,Sem.run_bind,run_underlying g2,Result.andThen];cases dd<;>rfl
      split at hv
      ·rename_i hag;cases hv;refine⟨.agg (cs.extract (n.toNat*J.size) (n.toNat*J.size+J.size)),?_,?_⟩
       ·simp only[Instr.index,asIntOf,Sem.run_bind,run_underlying h2,Result.andThen,Sem.run_pure,hn0,hnm,and_self,if_true,part,hagg,hag,hs]
       ·refine .agg (by simp;omega) ?_ ?_
        ·intro j l u hj hu;have hjs:j<J.size:=by
          have:=(kd6.1 hj).1;simp at this;omega
         rw[kg4 hjs,kj1]at hj;rw[ks6 (by omega)]at hu;exact e2 _ _ _ hj ((kg5 (by omega)).trans hu)
        ·intro u hu;obtain⟨j,hj,rfl⟩:=kn3 hu;rw[ku0];exact e3 _ (kp9 _)
      ·rename_i hag;split at hv
       ·rename_i l hl;cases hv;have hlt:n.toNat*J.size<cs.size:=by have:=(kd6.1 hl).1;omega
        refine⟨cs[n.toNat*J.size],?_,.one (e3 _ (kp9 _)) (e2 _ _ _ hl (kg5 hlt))⟩;simp only[Instr.index,asIntOf,Sem.run_bind,run_underlying h2,Result.andThen,Sem.run_pure,hn0,hnm,and_self,if_true,part,hagg,hag,hs];simp[kg5 hlt]
       ·cases hv
    ·cases hv
   ·cases hv
  ·cases hv
 ·cases hv
theorem jg1 {t:TypeId} {i:TI} (ht:ti P t=some i) {v:V} {x:Value} {n:Nat} (hx:bF w μ h v x) (hv:gR h i.kd v=some n) (ty:TypeId) :
  (Builtin.len_ #[t] ty #[x]).run P w = .ok (.int .i64 n) w:=by
 obtain⟨I,d,h1,h2,h3,h4,h5,h6,h7,h8,h9,h10,_⟩:=fF ht;have sl:∀(A:Option Addr) (len cap:Nat),i.kd = .slice→(Builtin.len_ #[t] ty #[.slice A len cap]).run P w = .ok (.int .i64 len) w:=by
  intro A len cap hk;rw[h7]at hk;obtain⟨e,rfl⟩:=oV hk;exact run_len_slice w t ty A len cap (by simp[Program.elem,h2])
 unfold gR at hv;split at hv
 ·split at hv
  ·rename_i hk;cases hv;cases hx with|one _ hx=>cases hx with|d hx=>cases hx with
   |sl0 A cap=>exact sl _ _ _ hk
   |sl=>exact sl _ _ _ hk
  ·cases hv
 ·split at hv
  ·rename_i hk;cases hv;cases hx with|one _ hx=>cases hx with
   |nils=>exact sl _ _ _ hk
  ·cases hv
 ·split at hv
  ·rename_i fz sz ver' xs hid;split at hv
   ·rename_i hk;obtain⟨hk,rfl⟩:=hk;cases hv;cases hx with|one _ hx=>cases hx with
    |own=>exact sl _ _ _ hk
    |ownNil=>exact sl _ _ _ hk
    |ownOld hid' hv=>rw[hid]at hid';cases hid';omega
    |ownDead hid'=>rw[hid]at hid';cases hid'
   ·cases hv
  ·cases hv
 ·split at hv
  ·rename_i cells hid;split at hv
   ·rename_i hk;cases hv;cases hx with|one _ hx=>cases hx with
    |bsl=>exact sl _ _ _ hk
    |bslDead hid'=>rw[hid]at hid';cases hid'
   ·cases hv
  ·cases hv
 ·split at hv
  ·rename_i fz sz ver' xs hid;split at hv
   ·rename_i hk;obtain⟨hk,rfl⟩:=hk;cases hv;cases hx with|one _ hx=>cases hx with
    |osl=>exact sl _ _ _ hk
    |oslOld hid' hv=>rw[hid]at hid';cases hid';omega
    |oslDead hid'=>rw[hid]at hid';cases hid'
   ·cases hv
  ·cases hv
 ·split at hv
  ·rename_i hk';cases hv;cases hx with|one _ hx=>cases hx with|d hx=>cases hx with
   |str=>
   rw[h7]at hk';have:=zL hk';subst this;simp[Builtin.len_,run_underlying h2,Result.andThen,goInt]
  ·cases hv
 ·cases hv
theorem jg2 {c x y:Operand} (s:dL w μ h T a) {b v:V} (hb:opd T c=some b) (hv:oW b (opd T x) (opd T y)=some v) :
  ∃t,a.eval c = .bool t∧bF w μ h v (if t then a.eval x else a.eval y):=by
 unfold oW at hv;split at hv
 ·rename_i t p q hx hy;cases hv;have e1:=(bS s hb).bool;refine⟨t,e1,?_⟩;cases t
  ·exact bS s hy
  ·exact bS s hx
 ·exact⟨true,(bS s hb).bool,bS s hv⟩
 ·exact⟨false,(bS s hb).bool,bS s hv⟩
 ·cases hv
theorem aW.shape (H:aW w μ h) {id:Nat} {T:TypeId} {cells:List L} (hid:h[id]?=some (.bx (some T) cells)) {b:Nat} (hb:μ id=some b):w.shape? b=some (T,cells.length):=H.ty id _ b hid hb
theorem jg3 {s t:TypeId} {id off:Nat} {x:Value} (H:aW w μ h) (hc:zi9 P h s t id off=true) (hx:bE w μ h (.ptr id off) x):(convert s t x).run P w = .ok x w:=by
 unfold zi9 at hc;split at hc
 ·rename_i T cells hid;cases hx with
  |ptrDead hd=>rw[hid]at hd;cases hd
  |@ptr _ _ _ _ b hid' hoff hμ=>
   have hsh:=H.shape hid hμ;split at hc
   ·rename_i u e1 e2;simp only[kf8,decide_eq_true_eq]at hc;obtain⟨h1,h2⟩:=hc;split at h1
    ·rename_i j hj;exact Lib.run_to_unsafe w ⟨b,off,none⟩ e1 e2 hj (by simpa using h1) hsh h2
    ·cases h1
   ·rename_i u e1 e2;simp only[kf8]at hc;obtain⟨h1,h2⟩:=hc;obtain⟨j,hj⟩:=kt2.1 h1;exact Lib.run_from_unsafe w ⟨b,off,none⟩ e1 e2 hj hsh h2
   ·cases hc
 ·cases hc
theorem jg4 {t:TypeId} {i:TI} (ht:ti P t=some i) {op:BinOp} {u v:V} {x y:Value} {d:D} (hx:bF w μ h u x) (hy:bF w μ h v y) (hd:fX P h t i.kd op u v=some d) (ox oy:Operand) :
  ∃z,(do eqGuard op t ox oy x y;binOp op t x y:Sem Value).run P w = .ok z w∧bF w μ h (.one (.d d)) z:=by
 unfold fX at hd;split at hd
 ·rename_i d' he;cases hd;exact jf6 ht hx hy he ox oy
 ·split at hd
  rotate_left
  ·cases hd
  unfold zK0 at hd;split at hd
  ·rename_i id off id' off';split at hd
   ·rename_i e;obtain⟨rfl,rfl⟩:=e;split at hd
    ·rename_i ty cells e hid hu;cases hx with|one _ hx=>
     cases hy with|one _ hy=>
     cases hx with
     |ptrDead hd'=>rw[hid]at hd';cases hd'
     |@ptr _ _ _ _ b hid' hoff hμ=>
     cases hy with
     |ptrDead hd'=>rw[hid]at hd';cases hd'
     |@ptr _ _ _ _ b2 hid2 hoff2 hμ2=>
     rw[hμ]at hμ2;cases hμ2;split at hd
     ·rename_i j hj;cases hd;exact⟨_,by rw[zj3 (by simp) (by simp)];exact run_eql_ptr_same w _ hu hj,.one rfl (.d (.bool _))⟩
     ·rename_i j hj;cases hd;exact⟨_,by rw[zj3 (by simp) (by simp)];exact Lib.run_neq_ptr_same w _ hu hj,.one rfl (.d (.bool _))⟩
     ·cases hd
    ·cases hd
   ·cases hd
  ·cases hd
theorem jg5 {o:Oper} {v:V} {h':aB} (H:aW w μ h) (s:dL w μ h T a) (hv:vop P T h o=some (v,h')):dU P w μ h (execOp a.eval o) v h':=by
 unfold vop at hv;split at hv
 ·rename_i x ho;split at hv
  ·rename_i u hx;cases hv;exact dU.same H (bS s hx) (by simp[execOp,ho])
  ·cases hv
 ·rename_i x ho;split at hv
  ·rename_i u hx;cases hv;exact dU.same H (bS s hx) (by simp[execOp,ho])
  ·cases hv
 ·rename_i c x y ho;split at hv
  ·rename_i b hb;split at hv
   ·rename_i u hu;cases hv;obtain⟨t,e1,e2⟩:=jg2 s hb hu;exact dU.same H e2 (by simp[execOp,ho,e1,asBool])
   ·cases hv
  ·cases hv
 ·rename_i e ho;split at hv
  ·rename_i i hi;split at hv
   ·rename_i z hz;split at hv
    ·rename_i ls hls;cases hv;obtain⟨x,hx,hax⟩:=je5 (P:=P) (w:=w) hi hz;have hne:ls≠[.any]:=by
      intro e;subst e;unfold iT at hax;split at hax
      ·rename_i cs;cases hc:mT cs.toList with
       |none=>simp[hc]at hax
       |some l=>
        simp[hc]at hax;subst hax;cases hls;cases hcs:cs.toList with
        |nil=>rw[hcs]at hc;cases hc
        |cons y r=>
         rw[hcs]at hc;unfold mT at hc;split at hc
         ·rename_i l' ls' hl' hls';cases hc;unfold nP at hl';split at hl'<;>cases hl'
         ·cases hc
      ·cases hc:nP x with
       |none=>simp[hc]at hax
       |some l=>
        simp[hc]at hax;subst hax;cases hls;unfold nP at hc;split at hc<;>cases hc
     obtain⟨μ',r1,r2,r3,r4⟩:=je6 (P:=P) H (vO hax) hls hne e;refine⟨_,_,μ',_,?_,.inl rfl,r2,.one rfl r3,r4⟩;simp[execOp,ho,Instr.alloc,hx,r1,Result.andThen]
    ·cases hv
   ·cases hv
  ·cases hv
 ·rename_i e x ho;split at hv
  ·rename_i u hx;split at hv
   ·rename_i hk;split at hv
    ·rename_i ls hls;cases hv;obtain⟨e1,e2,e3⟩:=(bS s hx).cells' hls hk;refine⟨_,_,_,_,?_,.inl rfl,zJ5 (t:=e) H e1 e2 e3,.one rfl zJ6,Good.push _ _ _ _ _⟩;simp[execOp,ho,Instr.box,newVar,newRow,Result.andThen]
    ·cases hv
   ·cases hv
  ·cases hv
 ·rename_i t ps ho;split at hv
  ·rename_i i vs hi hvs;split at hv
   ·rename_i u hu;cases hv;obtain⟨e1,e2⟩:=zM s hvs;obtain⟨x,hx,hr⟩:=jf2 (P:=P) (w:=w) (μ:=μ) (h:=h) hi (xs:=ps.toList.map fun q=>(q.1,a.eval q.2)) (by simpa using e1) (fun j p x hj hx=>by
     rw[ke6]at hx;cases hq:ps.toList[j]? with
     |none=>simp[hq]at hx
     |some q=>
      simp[hq]at hx;subst hx;exact e2 j p.1 p.2 q hj hq) hu
    refine dU.same H hr ?_;have:(ps.map fun q=>(q.1,a.eval q.2))=(ps.toList.map fun q=>(q.1,a.eval q.2)).toArray:=by rw[←Array.toList_map]
    simp[execOp,ho,this,hx,Result.andThen]
   ·cases hv
  ·cases hv
 ·rename_i t x ho;split at hv
  ·rename_i i l hi hx;split at hv
   ·rename_i u hu;cases hv;obtain⟨y,hy,hr⟩:=zJ4 H hi (bS s hx).l hu;exact dU.same H hr (by simp[execOp,ho,hy,Result.andThen])
   ·cases hv
  ·cases hv
 ·rename_i t p x ho;split at hv
  ·rename_i i l u hi hp hx;split at hv
   ·rename_i hk;split at hv
    ·rename_i h2 hs;cases hv;obtain⟨w',r1,r2,r3⟩:=jf1 hi H hk (bS s hp).l (bS s hx) hs;exact⟨_,w',μ,undef,by simp[execOp,ho,r1,Result.andThen],.inr ⟨rfl,rfl⟩,r2,.top,r3⟩
    ·cases hv
   ·cases hv
  ·cases hv
 ·rename_i x ho;split at hv
  ·rename_i l hx;split at hv
   ·rename_i hn;cases hv;have hr:=bS s hx;refine dU.same H hr ?_;rcases zK7 hn hr.l with⟨e,_⟩|⟨_,⟨ad,e⟩|⟨f,cs,e⟩⟩
    ·cases e
    ·simp[execOp,ho,e]
    ·simp[execOp,ho,e]
   ·cases hv
  ·cases hv
 ·rename_i op t x y ty ho;split at hv
  ·rename_i i u v' hi hx hy;split at hv
   ·rename_i d hd;cases hv;obtain⟨z,hz,hr⟩:=jg4 hi (bS s hx) (bS s hy) hd x y;refine dU.same H hr ?_;simp only[execOp,ho,Sem.run_bind,Sem.run_pure]at hz ⊢;rw[hz];rfl
   ·cases hv
  ·cases hv
 ·rename_i op t x ho;split at hv
  ·rename_i b hop hx;cases hv;exact dU.same H (.one rfl (.d (.bool _))) (by simp[execOp,ho,(bS s hx).bool,Op.unary])
  ·rename_i k n hop hx;cases hv;exact dU.same H (.one rfl (.d (.int _ _))) (by simp[execOp,ho,(bS s hx).int,Op.unary,Op.intArith])
  ·cases hv
 ·rename_i src dst x ho;split at hv
  ·rename_i i j k n hi hj hx;split at hv
   ·rename_i k' hk;cases hv;obtain⟨I,d,h1,h2,_⟩:=fF hi;obtain⟨J,d',h1',h2',_,_,_,_,h7',_⟩:=fF hj;rw[h7']at hk;have:=je7 hk;subst this;exact dU.same H (.one rfl (.d (.int _ _))) (by simp[execOp,ho,(bS s hx).int,convert,run_underlying h2,run_underlying h2',Conv.intToInt,Result.andThen])
   ·cases hv
  ·rename_i i j b hi hj hx;split at hv
   ·rename_i hk;cases hv;obtain⟨I,d,h1,h2,_⟩:=fF hi;obtain⟨J,d',h1',h2',_,_,_,_,h7',_⟩:=fF hj;rw[h7']at hk;have:=zL hk;subst this;exact dU.same H (.one rfl (.d (.str _))) (by cases d<;>simp[execOp,ho,(bS s hx).str,convert,run_underlying h2,run_underlying h2',Result.andThen])
   ·cases hv
  ·rename_i i j id off hi hj hx;split at hv
   ·cases hv
   ·cases hv
   split at hv
   ·rename_i hc;cases hv;have hr:=bS s hx;refine dU.same H hr ?_;have:=jg3 (P:=P) H hc hr.l;simp[execOp,ho,this,Result.andThen]
   ·cases hv
  ·cases hv
 ·rename_i f first caps ho
  split at hv
  ·rename_i hf;split at hv
   ·rename_i vs hvs;split at hv
    ·rename_i ls hls;cases hv;obtain⟨e1,e2⟩:=zj4 s hvs;have:=zj5 hls;subst this;have hf':first=#[]:=ks1 hf
     refine dU.same H (x:=.func (.func f) #[] (caps.map a.eval)) (.one rfl (.fn (by simpa using e1) ?_)) (by simp[execOp,ho,Instr.makeFunc,hf']);intro j l u hj hu;rw[ks3]at hu;cases hq:caps[j]? with
     |none=>simp[hq]at hu
     |some q=>
      simp[hq]at hu;subst hu;exact(e2 j (.one l) q (by simp[hj]) (by simpa using hq)).l
    ·cases hv
   ·cases hv
  ·split at hv
   ·rename_i hf;split at hv
    ·rename_i vs hvs;split at hv
     ·rename_i ls hls;cases hv;obtain⟨e1,e2⟩:=zj4 s hvs;have:=zj5 hls;subst this;have hf':caps=#[]:=ks1 hf;refine dU.same H (x:=.func (.func f) (first.map a.eval) #[]) (.one rfl (.fb (by simpa using e1) ?_)) (by simp[execOp,ho,Instr.makeFunc,hf']);intro j l u hj hu;rw[ks3]at hu;cases hq:first[j]? with
      |none=>simp[hq]at hu
      |some q=>
       simp[hq]at hu;subst hu;exact(e2 j (.one l) q (by simp[hj]) (by simpa using hq)).l
     ·cases hv
    ·cases hv
   ·cases hv
 ·rename_i t x lo hi ho;split at hv
  ·rename_i i u l k hi' hx hlo hhi;split at hv
   ·rename_i r hr;cases hv;obtain⟨y,hy,hrep⟩:=jf8 (P:=P) hi' s (bS s hx) hlo hhi hr;exact dU.same H hrep (by simp[execOp,ho,hy,Result.andThen])
   ·cases hv
  ·cases hv
 ·rename_i t x y m ho;split at hv
  ·rename_i i kp p kq q hi hx hy hm;split at hv
   ·rename_i hc;obtain⟨hk,hel,rfl,rfl⟩:=hc;cases hv;obtain⟨I,d,h1,h2,_,_,_,_,h7,_,h9,_⟩:=fF hi;rw[h7]at hk;obtain⟨et,rfl⟩:=oV hk;obtain⟨E,hE'⟩:=kt2.1 hel;have hE:gW P et=some E:=by rw[←h9 et rfl];exact hE'
    have het:P.elem t=et:=by simp[Program.elem,h2]
    have ht':P.underlying t=some (.slice (P.elem t)):=by rw[het];exact h2
    have hxs:a.eval x = .slice none 0 0:=by
     have:=(bS s hx).l;generalize a.eval x=z at this;cases this;rfl
    refine dU.same H (x:=.slice none 0 0) (.one rfl .nils) ?_;have r1:=run_sliceBound w kq 0 0 .slice3Acap (P:=P) (by omega) (by omega);have r2:=run_sliceBound w kp 0 0 .slice3B (P:=P) (by omega) (by omega);have hb:(Instr.sliceBounds true 0 0 none (some (.int kp 0)) (some (.int kq 0))).run P w = .ok (0,0,0) w:=by
     unfold Instr.sliceBounds;simp only[if_true,Sem.run_bind,r1,Result.andThen];simp only[Int.toNat_zero,r2,Result.andThen,Sem.run_pure,Sem.run_bind]
    have hr:(Instr.sliceAt t (.slice none 0 0) none (some (.int kp 0)) (some (.int kq 0))).run P w = .ok (.slice none 0 0) w:=by
     rw[run_sliceAt_slice w t _ _ _ _ ht',run_slice_any w t none 0 0 ht',hb,het];simp only[Result.andThen,nR hE];rfl
    simp[execOp,ho,hxs,(bS s hy).int,(bS s hm).int,hr,Result.andThen]
   ·cases hv
  ·cases hv
 ·rename_i t x f ho;split at hv
  ·rename_i i l hi hx;split at hv
   ·rename_i F hk hF;split at hv
    ·cases hv
    ·rename_i h0;split at hv
     ·rename_i q hq;cases hv;obtain⟨y,hy,hr,h1⟩:=je8 (P:=P) hi hk hF h0 (bS s hx).l hq;exact dU.same H (.one h1 hr) (by simp[execOp,ho,hy,Result.andThen])
     ·cases hv
   ·cases hv
  ·cases hv
 ·rename_i t x f ho;split at hv
  ·rename_i i u hi hx;split at hv
   ·rename_i q hq;cases hv;obtain⟨y,hy,hr⟩:=jf9 (P:=P) hi (bS s hx) hq;exact dU.same H hr (by simp[execOp,ho,hy,Result.andThen])
   ·cases hv
  ·cases hv
 ·rename_i t x ix ho;split at hv
  ·rename_i i l k n hi hx hn;split at hv
   ·rename_i e he;split at hv
    ·rename_i q hq;cases hv;obtain⟨y,hy,hr,h1⟩:=je9 (P:=P) (k:=k) hi he (bS s hx).l hq;exact dU.same H (.one h1 hr) (by simp[execOp,ho,hy,(bS s hn).int,Result.andThen])
    ·cases hv
   ·cases hv
  ·cases hv
 ·rename_i t x ix ho;split at hv
  ·rename_i i str k n hi hx hn;split at hv
   ·rename_i hk;split at hv
    ·rename_i h0;split at hv
     ·rename_i b hb;cases hv;obtain⟨I,d,h1,h2,_,_,_,_,h7,_⟩:=fF hi;rw[h7]at hk;have:=zL hk;subst this;refine dU.same H (x:=.int .u8 b.toNat) (.one rfl (.d (.int _ _))) ?_;simp[execOp,ho,(bS s hx).str,(bS s hn).int,Instr.index,asIntOf,run_underlying h2,Result.andThen,h0,hb]
     ·cases hv
    ·cases hv
   ·cases hv
  ·rename_i i ls k n hi hx hn;split at hv
   ·rename_i q hq;cases hv;obtain⟨y,hy,hr⟩:=jg0 (P:=P) (k:=k) hi (bS s hx) hq;exact dU.same H hr (by simp[execOp,ho,hy,(bS s hn).int,Result.andThen])
   ·cases hv
  ·cases hv
 ·rename_i x k ho;split at hv
  ·rename_i vs hx;split at hv
   ·rename_i u hu;cases hv;have hr:=bS s hx;generalize hxx:a.eval x=xx at hr;cases hr with
    |@tup _ cs e1 e2=>
     have hlt:k<cs.size:=by have:=(kd6.1 hu).1;omega
     exact dU.same H (e2 _ _ _ hu (kg5 hlt)) (by simp[execOp,ho,hxx,Instr.extract,kg5 hlt])
   ·cases hv
  ·cases hv
 ·rename_i args argTypes ho;split at hv
  ·rename_i x t hargs hts;split at hv
   ·rename_i i u hi hx;split at hv
    ·rename_i n hn;cases hv;have e1:args=#[x]:=by apply kk0.1;simpa using hargs
     have e2:argTypes=#[t]:=by apply kk0.1;simpa using hts
     subst e1;subst e2;refine dU.same H (x:=.int .i64 n) (.one rfl (.d (.int _ _))) ?_;simp[execOp,ho,resolve,invoke,builtin,jg1 hi (bS s hx) hn,Result.andThen]
    ·cases hv
   ·cases hv
  ·cases hv
 ·rename_i args argTypes ho;split at hv
  ·rename_i x y hargs;split at hv
   ·rename_i k p k' q hx hy;cases hv;have e1:args=#[x,y]:=by apply kk0.1;simpa using hargs
    subst e1;refine dU.same H (x:=.int k (if q>p then q else p)) (.one rfl (.d (.int _ _))) ?_;simp[execOp,ho,resolve,invoke,builtin,(bS s hx).int,(bS s hy).int,Builtin.max_,Builtin.max2]
   ·cases hv
  ·cases hv
 ·rename_i args argTypes ho;split at hv
  ·rename_i x y hargs;split at hv
   ·rename_i k p k' q hx hy;cases hv;have e1:args=#[x,y]:=by apply kk0.1;simpa using hargs
    subst e1;refine dU.same H (x:=.int k (if q<p then q else p)) (.one rfl (.d (.int _ _))) ?_;simp[execOp,ho,resolve,invoke,builtin,(bS s hx).int,(bS s hy).int,Builtin.min_,Builtin.min2]
   ·cases hv
  ·cases hv
 ·cases hv
end Go.Vt
