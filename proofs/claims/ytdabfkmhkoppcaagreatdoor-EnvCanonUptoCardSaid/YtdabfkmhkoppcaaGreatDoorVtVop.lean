import Derived.Test.YtdabfkmhkoppcaaGreatDoorVtSound
import Derived.Laws.Concat
import Derived.Laws.Slices
import Derived.Laws.Pointers
import Derived.Laws.Small
import Derived.Laws.Strings
import Derived.Laws.Cover1
import Derived.Lib.SlBytesRow
import Derived.Lib.Builder
set_option linter.all false
open Array renaming eq_empty_of_size_eq_zero→kE8,getElem?_eq_getElem→ks6,getElem?_extract_of_lt→kF2,getElem?_map→kF0,getElem_extract→kG7,getElem_mem→kC4,getElem_of_mem→kz6,toList_inj→kv9
open Bool renaming and_eq_true→ks2,false_eq_true→kx8
open List renaming getElem?_drop→kv4,getElem?_eq_getElem→kr1,getElem?_eq_some_iff→kp9,getElem?_map→ks1,getElem?_take_of_lt→ks5,length_cons→kr4,mem_of_getElem?→kq0
open Nat renaming add_zero→kA5,le_refl→ks0,le_trans→kD2,mul_one→kJ9,sub_self→kD4,zero_add→kt2,zero_le→kt1
open Option renaming isSome_iff_exists→kF8,isSome_none→kH9,map_eq_some_iff→kv7,map_some→kt9
namespace Go.Vt
set_option linter.unusedSectionVars false
set_option linter.unusedVariables false
variable [cJ]
def kT (T:Sl):Option Operand→Option (Option V)
 |none=>some none
 |some x=>match opd T x with
  |some v=>some (some v)
  |none=>none
def fF (n:Nat):Option V→Option Nat
 |none=>some n
 |some (.one (.d (.int _ k)))=>if 0≤k then some k.toNat else none
 |_=>none
def mC (n:Nat) (xs:List (List D)):Bool:=xs.all fun e=>e.length == n
def dL (h:aB) (kd:TK) (el:Option EI) (v:V) (lo hi:Option V):Option V:=
 match kd,v with
 |.slice,.one .nils=>match fF 0 lo,fF 0 hi,el with
  |some l,some k,some _=>if l=0∧k=0 then some (.one .nils)else none
  |_,_,_=>none
 |.slice,.one (.d (.sl xs))=>match fF 0 lo,fF xs.length hi,el with
  |some l,some k,some e=>if l≤k∧k≤xs.length∧(l=0∨mC e.size xs=true)then some (.one (.d (.sl ((xs.take k).drop l))))else none
  |_,_,_=>none
 |.slice,.one (.own id ver len)=>match lo,fF len hi,h[id]?,el with
  |none,some k,some (.ar ty _ _ ver' _),some _=>if k≤len∧ver'=ver then some (.one (.own id ver k))else none
  |some x,some k,some (.ar ty _ sz ver' _),some e=>match fF 0 (some x)with
   |some l=>if l≤k∧k≤len∧ver'=ver∧sz=e.size then (if l=k then some (.one (.d (.sl [])))else some (.one (.osl id ver l (k-l))))else none
   |none=>none
  |_,_,_,_=>none
 |.slice,.one (.bsl id off len)=>match fF 0 lo,fF len hi,h[id]?,el with
  |some l,some k,some (.bx ty _),some e=>if e.size=1∧l≤k∧k≤len then (if l=k∧l≠0 then some (.one (.d (.sl [])))else some (.one (.bsl id (off+l) (k-l))))else none
  |_,_,_,_=>none
 |.str,.one (.d (.str s))=>match fF 0 lo,fF s.size hi with
  |some l,some k=>if l≤k∧k≤s.size then some (.one (.d (.str (s.extract l k))))else none
  |_,_=>none
 |_,_=>none
def iO (h:aB) (kd:TK):V→Option Nat
 |.one (.d (.sl xs))=>if kd = .slice then some xs.length else none
 |.one .nils=>if kd = .slice then some 0 else none
 |.one (.own id ver len)=>match h[id]? with
  |some (.ar ty _ _ ver' _)=>if kd = .slice∧ver'=ver then some len else none
  |_=>none
 |.one (.bsl id _ len)=>match h[id]? with
  |some (.bx ty _)=>if kd = .slice then some len else none
  |_=>none
 |.one (.osl id ver _ len)=>match h[id]? with
  |some (.ar ty _ _ ver' _)=>if kd = .slice∧ver'=ver then some len else none
  |_=>none
 |.one (.d (.str s))=>if kd = .str then some s.size else none
 |_=>none
def sQ (i:TI) (f:Nat):V→Option V
 |.agg ls=>match i.kd,i.flds[f]? with
  |.struct,some F=>if F.1+F.2.1≤ls.length then (if F.2.2 then some (.agg ((ls.drop F.1).take F.2.1))else (match ls[F.1]? with|some l=>some (.one l)|none=>none))else none
  |_,_=>none
 |_=>none
def zn6 (i:TI) (n:Int):V→Option V
 |.agg ls=>if 0≤n then (match i.kd,i.flds[n.toNat]? with
  |.arr,some F=>if F.1+F.2.1≤ls.length then (if F.2.2 then some (.agg ((ls.drop F.1).take F.2.1))else (match ls[F.1]? with|some l=>some (.one l)|none=>none))else none
  |_,_=>none)else none
 |_=>none
def pK:V→Option V→Option V→Option V
 |.one (.d (.bool t)),some (.one (.d (.bool x))),some (.one (.d (.bool y)))=>some (.one (.d (.bool (cond t x y))))
 |.one (.d (.bool true)),x,_=>x
 |.one (.d (.bool false)),_,y=>y
 |_,_,_=>none
def mV:List V→Option (List L)
 |[]=>some []
 |.one l::r=>match mV r with
  |some ls=>some (l::ls)
  |none=>none
 |_=>none
def qY (P:Program) (h:aB) (s t:TypeId) (id off:Nat):Bool:=match h[id]? with
 |some (.bx (some T) cells)=>match P.underlying s,P.underlying t with
  |some (.pointer u),some .unsafePointer=>(match P.info? u with|some j=>j.size != 0|none=>false)&&decide (off<cells.length)
  |some .unsafePointer,some (.pointer u)=>(P.info? u).isSome&&liesAt P P.depth T (cells.length / P.cellsOf T) off u 1
  |_,_=>false
 |_=>false
def zc2 (P:Program) (h:aB) (t:TypeId) (op:BinOp):V→V→Option D
 |.one (.ptr id off),.one (.ptr id' off')=>if id=id'∧off=off' then (match h[id]?,P.underlying t with
  |some (.bx _ _),some (.pointer e)=>(match P.info? e,op with
   |some _,.eql=>some (.bool true)
   |some _,.neq=>some (.bool false)
   |_,_=>none)
  |_,_=>none)else none
 |_,_=>none
def gZ (P:Program) (h:aB) (t:TypeId) (kd:TK) (op:BinOp) (u v:V):Option D:=match gV h kd op u v with
 |some d=>some d
 |none=>match kd with
  |.ptr=>zc2 P h t op u v
  |_=>none
def vop (P:Program) (T:Sl) (h:aB) (o:Oper):Option (V×aB):=
 match o.op with
 |.move x|.assign x=>match opd T x with
  |some v=>some (v,h)
  |none=>none
 |.pick c x y=>match opd T c with
  |some b=>match pK b (opd T x) (opd T y)with
   |some v=>some (v,h)
   |none=>none
  |none=>none
 |.alloc e=>match ti P e with
  |some i=>match i.zero with
   |some z=>match iG z with
    |some ls=>some (.one (.ptr h.length 0),h++[kC P e ls])
    |none=>none
   |none=>none
  |none=>none
 |.box e x=>match opd T x with
  |some v=>if jR v=true then (match iG v with
   |some ls=>some (.one (.ptr h.length 0),h++[kC P e ls])
   |none=>none)else none
  |none=>none
 |.build t ps=>match ti P t,lI T ps.toList with
  |some i,some vs=>match uP i vs with
   |some v=>some (v,h)
   |none=>none
  |_,_=>none
 |.load t x=>match ti P t,opd T x with
  |some i,some (.one l)=>match cN h i l with
   |some v=>some (v,h)
   |none=>none
  |_,_=>none
 |.store t p x=>match ti P t,opd T p,opd T x with
  |some i,some (.one l),some v=>if jR v=true then (match sO h i l v with
   |some h'=>some (.one .any,h')
   |none=>none)else none
  |_,_,_=>none
 |.nilCheck x=>match opd T x with
  |some (.one l)=>match jE h l with
   |some false=>some (.one l,h)
   |_=>none
  |_=>none
 |.binOp op t x y _=>match ti P t,opd T x,opd T y with
  |some i,some u,some v=>match gZ P h t i.kd op u v with
   |some d=>some (.one (.d d),h)
   |none=>none
  |_,_,_=>none
 |.unOp op _ x=>match op,opd T x with
  |.not,some (.one (.d (.bool b)))=>some (.one (.d (.bool (!b))),h)
  |.neg,some (.one (.d (.int k n)))=>some (.one (.d (.int k (k.wrap (0-n)))),h)
  |_,_=>none
 |.convert s t x=>match ti P s,ti P t,opd T x with
  |some _,some j,some (.one (.d (.int _ n)))=>match j.kd with
   |.int k=>some (.one (.d (.int k (k.wrap n))),h)
   |_=>none
  |some _,some j,some (.one (.d (.str s)))=>match j.kd with
   |.str=>some (.one (.d (.str s)),h)
   |_=>none
  |some _,some j,some (.one (.ptr id off))=>match j.kd with
   |.int _=>none
   |.str=>none
   |_=>if qY P h s t id off=true then some (.one (.ptr id off),h)else none
  |some i,some j,some (.one (.own id ver len))=>match i.kd,j.kd,h[id]? with
   |.slice,.str,some (.ar _ _ sz ver' xs)=>if xA P s=true∧ver'=ver∧sz=1∧len≠0∧len≤xs.length then (match mU (xs.take len)with
    |some bs=>some (.one (.d (.str ⟨bs.toArray⟩)),h)
    |none=>none)else none
   |_,_,_=>none
  |_,_,_=>none
 |.makeFunc (.func f) first caps=>if first.size=0 then (match eO T caps.toList with
  |some vs=>match mV vs with
   |some ls=>some (.one (.fn f ls),h)
   |none=>none
  |none=>none)else if caps.size=0 then (match eO T first.toList with
  |some vs=>match mV vs with
   |some ls=>some (.one (.fb f ls),h)
   |none=>none
  |none=>none)else none
 |.slice t x lo hi none=>match ti P t,opd T x,kT T lo,kT T hi with
  |some i,some v,some l,some k=>match dL h i.kd i.el v l k with
   |some v=>some (v,h)
   |none=>none
  |_,_,_,_=>none
 |.slice t x none (some y) (some m)=>match ti P t,opd T x,opd T y,opd T m with
  |some i,some (.one .nils),some (.one (.d (.int _ p))),some (.one (.d (.int _ q)))=>if i.kd = .slice∧i.el.isSome=true∧p=0∧q=0 then some (.one .nils,h)else none
  |_,_,_,_=>none
 |.fieldAddr t x f=>match ti P t,opd T x with
  |some i,some (.one l)=>match i.kd,i.flds[f]? with
   |.struct,some F=>if F.2.1=0 then none else (match mT h F.1 l with
    |some q=>some (.one q,h)
    |none=>none)
   |_,_=>none
  |_,_=>none
 |.field t x f=>match ti P t,opd T x with
  |some i,some v=>match sQ i f v with
   |some v=>some (v,h)
   |none=>none
  |_,_=>none
 |.indexAddr t x ix=>match ti P t,opd T x,opd T ix with
  |some i,some (.one l),some (.one (.d (.int _ n)))=>match i.el with
   |some e=>match kR h e.size n l with
    |some q=>some (.one q,h)
    |none=>none
   |none=>none
  |_,_,_=>none
 |.index t x ix=>match ti P t,opd T x,opd T ix with
  |some i,some (.one (.d (.str s))),some (.one (.d (.int _ n)))=>match i.kd with
   |.str=>if 0≤n then (match s[n.toNat]? with
    |some b=>some (.one (.d (.int .u8 b.toNat)),h)
    |none=>none)else none
   |_=>none
  |some i,some (.agg ls),some (.one (.d (.int _ n)))=>match zn6 i n (.agg ls)with
   |some v=>some (v,h)
   |none=>none
  |_,_,_=>none
 |.extract x k=>match opd T x with
  |some (.tup vs)=>match vs[k]? with
   |some v=>some (v,h)
   |none=>none
  |_=>none
 |.call { callee:=.builtin .len,args,argTypes }=>match args.toList,argTypes.toList with
  |[x],[t]=>match ti P t,opd T x with
   |some i,some v=>match iO h i.kd v with
    |some n=>some (.one (.d (.int .i64 n)),h)
    |none=>none
   |_,_=>none
  |_,_=>none
 |.call { callee:=.builtin .max,args,.. }=>match args.toList with
  |[x,y]=>match opd T x,opd T y with
   |some (.one (.d (.int k a))),some (.one (.d (.int _ b)))=>some (.one (.d (.int k (if b>a then b else a))),h)
   |_,_=>none
  |_=>none
 |.call { callee:=.builtin .min,args,.. }=>match args.toList with
  |[x,y]=>match opd T x,opd T y with
   |some (.one (.d (.int k a))),some (.one (.d (.int _ b)))=>some (.one (.d (.int k (if b<a then b else a))),h)
   |_,_=>none
  |_=>none
 |_=>none
variable {P:Program} {w:World} {μ:Pl} {h:aB} {T:Sl} {a:Act}
theorem zn7 (off:Nat):∀(vs:List Value) (k:Nat) (cs:Array Value),off+k+vs.length≤cs.size→
  ((vs.zipIdx k).foldl (fun(cs:Array Value) (x:Value×Nat)=>cs.setIfInBounds (off+x.2) x.1) cs).size=cs.size∧
  ∀j,((vs.zipIdx k).foldl (fun(cs:Array Value) (x:Value×Nat)=>cs.setIfInBounds (off+x.2) x.1) cs)[j]?=if off+k≤j∧j<off+k+vs.length then vs[j-(off+k)]? else cs[j]?
 |[],k,cs,_=>⟨rfl,fun j=>by rw[if_neg (by simp)];rfl⟩
 |v::r,k,cs,hl=>by
  simp only[kr4]at hl;obtain⟨h1,h2⟩:=zn7 off r (k+1) (cs.setIfInBounds (off+k) v) (by simp;omega);simp only[List.zipIdx_cons,List.foldl_cons];refine⟨by rw[h1];simp,fun j=>?_⟩;rw[h2 j];simp only[kr4];by_cases c1:off+(k+1)≤j∧j<off+(k+1)+r.length
  ·rw[if_pos c1,if_pos (by omega),show j-(off+k)=(j-(off+(k+1)))+1 by omega,List.getElem?_cons_succ]
  ·rw[if_neg c1];by_cases c2:j=off+k
   ·subst c2;rw[if_pos (by omega)];simp[show off+k<cs.size by omega]
   ·rw[if_neg (by omega),Array.getElem?_setIfInBounds_ne (by omega)]
theorem zc3 (s:dP w μ h T a):∀{ps:List (Nat×Operand)} {vs:List (Nat×V)},lI T ps=some vs→vs.length=ps.length∧∀(j:Nat) (k:Nat) (v:V) (q:Nat×Operand),vs[j]?=some (k,v)→ps[j]?=some q→q.1=k∧aZ w μ h v (a.eval q.2)
 |[],vs,hv=>by cases hv;exact⟨rfl,by simp⟩
 |(k,x)::r,vs,hv=>by
  unfold lI at hv;split at hv
  ·rename_i v vs' hx hr;cases hv;obtain⟨h1,h2⟩:=zc3 s hr;refine⟨by simp[h1],?_⟩;intro j k' v' q hj hq;cases j with
   |zero=>simp at hj hq;obtain⟨rfl,rfl⟩:=hj;subst hq;exact⟨rfl,bR s hx⟩
   |succ j=>exact h2 j k' v' q (by simpa using hj) (by simpa using hq)
  ·cases hv
def zn8 (w:World) (μ:Pl) (h:aB) (ls:List L) (cs:Array Value):Prop:=
 ls.length=cs.size∧(∀v∈cs,v.oneCell'=true)∧∀(j:Nat) (l:L) (v:Value),ls[j]?=some l→cs[j]?=some v→aY w μ h l v
theorem zn9 (place:Nat→Option (Nat×Nat)) (fl:List (Nat×Nat×Bool)) (hpl:∀k F,fl[k]?=some F→place k=some (F.1,F.2.1)) :
  ∀(ps:List (Nat×V)) (xs:List (Nat×Value)) (ls:List L) (cs:Array Value) (out:List L),ps.length=xs.length→
   (∀(j:Nat) (p:Nat×V) (x:Nat×Value),ps[j]?=some p→xs[j]?=some x→x.1=p.1∧aZ w μ h p.2 x.2)→zn8 w μ h ls cs→pG fl ls ps=some out→
   ∃cs',Instr.fill place cs xs=some cs'∧zn8 w μ h out cs'
 |[],[],ls,cs,out,_,_,hr,ho=>by cases ho;exact⟨cs,rfl,hr⟩
 |(k,v)::ps,(k',x)::xs,ls,cs,out,hl,hp,hr,ho=>by
  obtain⟨e,hx⟩:=hp 0 _ _ rfl rfl;simp only at e hx;subst e;unfold pG at ho;split at ho
  ·rename_i F vs hF hv;split at ho
   ·rename_i hc;obtain⟨hk,h1,h2⟩:=hc;obtain⟨e1,e2,e3⟩:=hx.cells' hv hk;have hsz:F.1+x.cells.size≤cs.size:=by rw[←hr.1];omega
    have hfold:=zn7 F.1 x.cells.toList 0 cs (by simpa using hsz);simp only[Array.length_toList,kA5]at hfold;have hrow:zn8 w μ h (mB ls F.1 vs) ((x.cells.toList.zipIdx 0).foldl (fun(cs:Array Value) (x:Value×Nat)=>cs.setIfInBounds (F.1+x.2) x.1) cs):=by
     refine⟨by rw[uR _ _ _ h2,hfold.1,hr.1],?_,?_⟩
     ·intro u hu;obtain⟨j,hj,rfl⟩:=kz6 hu;have:=hfold.2 j;rw[ks6 hj]at this;split at this
      ·exact e2 _ (by have:=(kq0 this.symm);simpa using this)
      ·exact hr.2.1 _ (Array.mem_of_getElem? this.symm)
     ·intro j l u hj hu;rw[zn3 _ _ _ h2]at hj;rw[hfold.2 j,←e1]at hu;split at hj
      ·rename_i hc;rw[if_pos hc]at hu;exact e3 _ _ _ hj (by simpa using hu)
      ·rename_i hc;rw[if_neg hc]at hu;exact hr.2.2 _ _ _ hj hu
    obtain⟨cs',hf,hr'⟩:=zn9 place fl hpl ps xs _ _ out (by simpa using hl) (fun j p x a b=>hp (j+1) p x (by simpa using a) (by simpa using b)) hrow ho;refine⟨cs',?_,hr'⟩;unfold Instr.fill;rw[hpl _ _ hF];simp only;rw[if_neg (by simp;omega)];have:Array.foldl (fun(cs:Array Value) (x:Value×Nat)=>cs.setIfInBounds (F.1+x.2) x.1) cs x.cells.zipIdx=(x.cells.toList.zipIdx 0).foldl (fun(cs:Array Value) (x:Value×Nat)=>cs.setIfInBounds (F.1+x.2) x.1) cs:=by
     rw[←Array.foldl_toList];congr 1;simp
    rw[←hf,←this]
   ·cases ho
  ·cases ho
 |[],_::_,_,_,_,hl,_,_,_=>by cases hl
 |_::_,[],_,_,_,hl,_,_,_=>by cases hl
theorem zQ9:∀{fs:List Field} {fl:List (Nat×Nat×Bool)},sN P fs=some fl→fs.mapM (fun f=>(P.info? f.type).map fun i=>(f.offset,i.size))=some (fl.map fun F=>(F.1,F.2.1))
 |[],fl,hf=>by cases hf;rfl
 |f::r,fl,hf=>by
  unfold sN at hf;split at hf
  ·rename_i y ys hy hys;cases hf;obtain⟨I,d,h1,h2,rfl⟩:=zm9 hy;simp[List.mapM_cons,h1,zQ9 hys]
  ·cases hf
theorem zR0 {d:TypeDesc} (hk:pF d = .arr):∃n e,d = .array n e:=by cases d<;>first|exact⟨_,_,rfl⟩|cases hk
theorem zR1 {n k j:Nat} (h:(List.range n)[k]?=some j):k<n∧j=k:=by
 have hl:=(kp9.1 h).1;simp at hl;rw[List.getElem?_range hl]at h;exact⟨hl,(Option.some.inj h).symm⟩
theorem jn1 {t:TypeId} {i:TI} (ht:ti P t=some i) {ps:List (Nat×V)} {xs:List (Nat×Value)} {v:V} (hl:ps.length=xs.length)
  (hp:∀(j:Nat) (p:Nat×V) (x:Nat×Value),ps[j]?=some p→xs[j]?=some x→x.1=p.1∧aZ w μ h p.2 x.2) (hv:uP i ps=some v) :
  ∃x,(Instr.build t xs.toArray).run P w = .ok x w∧aZ w μ h v x:=by
 obtain⟨I,d,h1,h2,h3,h4,h5,h6,h7,h8,_,_,h10⟩:=fE ht;unfold uP at hv;split at hv
 ·rename_i z hk hz;obtain⟨fs,rfl⟩:=zn2 (h7▸hk);have hfl:=h8 fs rfl;cases hout:pG i.flds z ps with
  |none=>simp[hout]at hv
  |some out=>
   simp[hout]at hv;subst hv;rw[hz]at h6;cases hI:I.zero with
   |none=>simp[hI]at h6
   |some zx=>
    have hzx:jL zx=some (.agg z):=by simpa[hI]using h6.symm
    have hr:aZ w μ h (.agg z) zx:=xB hzx;cases hr with
    |@agg _ cs hr1 hr2 hr3=>
     obtain⟨cs',hf,hr'⟩:=zn9 (w:=w) (μ:=μ) (h:=h) (fun k=>(i.flds.map fun F=>(F.1,F.2.1))[k]?) i.flds (fun k F hF=>by rw[ks1,hF];rfl) ps xs z cs out hl hp ⟨hr1,hr3,hr2⟩ hout;refine⟨.agg cs',?_,.agg hr'.1 hr'.2.2 hr'.2.1⟩;apply run_build;unfold Program.built;simp only[h1,h2,hI,zQ9 hfl];rw[←hf];simp[Value.cells]
 ·rename_i z hk hz;obtain⟨n,e,rfl⟩:=zR0 (h7▸hk);obtain⟨J,dd,g1,g2,hfl⟩:=h10 n e rfl;cases hout:pG i.flds z ps with
  |none=>simp[hout]at hv
  |some out=>
   simp[hout]at hv;subst hv;rw[hz]at h6;cases hI:I.zero with
   |none=>simp[hI]at h6
   |some zx=>
    have hzx:jL zx=some (.agg z):=by simpa[hI]using h6.symm
    have hr:aZ w μ h (.agg z) zx:=xB hzx;cases hr with
    |@agg _ cs hr1 hr2 hr3=>
     obtain⟨cs',hf,hr'⟩:=zn9 (w:=w) (μ:=μ) (h:=h) (fun k=>some (k*J.size,J.size)) i.flds (fun k F hF=>by
      rw[hfl,ks1,kv7]at hF;obtain⟨k',hk',rfl⟩:=hF;obtain⟨_,rfl⟩:=zR1 hk';rfl) ps xs z cs out hl hp ⟨hr1,hr3,hr2⟩ hout
     refine⟨.agg cs',?_,.agg hr'.1 hr'.2.2 hr'.2.1⟩;apply run_build;unfold Program.built;simp only[h1,h2,hI,g1];rw[←hf];simp[Value.cells]
 ·cases hv
theorem zR2 (x y:ByteArray):(x.toList == y.toList)=decide (x=y):=by
 rw[Bool.eq_iff_iff,beq_iff_eq,decide_eq_true_iff,ByteArray.toList_eq,ByteArray.toList_eq];exact⟨fun h=>ByteArray.ext (kv9.mp h),fun h=>by rw[h]⟩
theorem zR3 {d:TypeDesc} (hk:pF d = .bool):d = .bool:=by cases d<;>first|rfl|cases hk
theorem zR4 {d:TypeDesc} (hk:pF d = .ptr):∃e,d = .pointer e:=by cases d<;>first|exact⟨_,rfl⟩|cases hk
theorem zR5 {l:L} {b:Bool} {x:Value} (hb:jE h l=some b) (hx:aY w μ h l x) :
  (b=true∧(x = .pointer none∨x = .nilFunc))∨(b=false∧((∃ad,x = .pointer (some ad))∨∃f cs,x = .func (.func f) #[] cs)):=by
 cases hx with
 |d hd=>cases hd<;>first|(cases hb;exact .inl ⟨rfl,.inl rfl⟩)|cases hb
 |nils=>cases hb
 |own=>cases hb
 |ownNil=>cases hb
 |ownOld=>cases hb
 |ownDead=>cases hb
 |ptr hid _ _=>simp only[jE,hid]at hb;cases hb;exact .inr ⟨rfl,.inl ⟨_,rfl⟩⟩
 |ptrDead hid=>simp only[jE,hid]at hb;cases hb
 |ept hid _ _ _=>simp only[jE,hid,if_true]at hb;cases hb;exact .inr ⟨rfl,.inl ⟨_,rfl⟩⟩
 |eptOld hid hv=>simp only[jE,hid]at hb;rw[if_neg (by omega)]at hb;cases hb
 |eptDead hid=>simp only[jE,hid]at hb;cases hb
 |ref=>cases hb;exact .inr ⟨rfl,.inl ⟨_,rfl⟩⟩
 |fn=>cases hb;exact .inr ⟨rfl,.inr ⟨_,_,rfl⟩⟩
 |nilf=>cases hb;exact .inl ⟨rfl,.inr rfl⟩
 |any=>cases hb
 |bsl=>cases hb
 |bslDead=>cases hb
 |osl=>cases hb
 |oslOld=>cases hb
 |oslDead=>cases hb
 |nili=>cases hb
 |fb=>cases hb
theorem jn2 {M:Nat→Prop} {v:Value} (hd:cM w M .nilp v):v = .pointer none:=by cases hd;rfl
theorem jn3 {op:BinOp} {k:IntKind} {a b:Int} {d:D} (hd:gU op k a b=some d) (t:TypeId):∃z,(binOp op t (.int k a) (.int k b)).run P w = .ok z w∧aZ w μ h (.one (.d d)) z:=by
 cases op<;>first|(cases hd;done)|skip
 ·cases hd;exact⟨_,by rw[binOp_add];rfl,.one rfl (.d (.int _ _))⟩
 ·cases hd;exact⟨_,by rw[binOp_sub];rfl,.one rfl (.d (.int _ _))⟩
 ·cases hd;exact⟨_,by rw[binOp_mul];rfl,.one rfl (.d (.int _ _))⟩
 ·simp only[gU]at hd;split at hd
  ·cases hd
  ·rename_i hy;cases hd;refine⟨_,?_,.one rfl (.d (.int _ _))⟩;rw[binOp_quo];unfold Op.intDiv;rw[if_neg hy];rfl
 ·simp only[gU]at hd;split at hd
  ·cases hd
  ·rename_i hy;cases hd;refine⟨_,?_,.one rfl (.d (.int _ _))⟩;rw[binOp_rem];unfold Op.intDiv;rw[if_neg hy];rfl
 ·simp only[gU]at hd;split at hd
  ·rename_i hc;cases hd;refine⟨_,?_,.one rfl (.d (.int _ _))⟩;show(Op.shift .shr k a k b).run P w=_;unfold Op.shift;rw[if_neg (by omega)];simp only[Nat.min_eq_left hc.2];rfl
  ·cases hd
 ·cases hd;exact⟨_,by rw[binOp_eql];rfl,.one rfl (.d (.bool _))⟩
 ·cases hd;exact⟨_,by rw[binOp_neq];rfl,.one rfl (.d (.bool _))⟩
 ·cases hd;exact⟨_,by rw[binOp_lss];rfl,.one rfl (.d (.bool _))⟩
 ·cases hd;exact⟨_,by rw[binOp_leq];rfl,.one rfl (.d (.bool _))⟩
 ·cases hd;exact⟨_,by rw[binOp_gtr];rfl,.one rfl (.d (.bool _))⟩
 ·cases hd;exact⟨_,by rw[binOp_geq];rfl,.one rfl (.d (.bool _))⟩
theorem jn4 {op:BinOp} {a b:ByteArray} {d:D} (hd:nT op a b=some d) (t:TypeId):∃z,(binOp op t (.string a) (.string b)).run P w = .ok z w∧aZ w μ h (.one (.d d)) z:=by
 cases op<;>first|(cases hd;done)|skip
 ·simp only[nT]at hd;split at hd
  ·rename_i hs;cases hd;exact⟨_,by rw[binOp_string_add,run_string_add_sum w a b hs],.one rfl (.d (.str _))⟩
  ·cases hd
 ·cases hd;exact⟨_,by rw[binOp_string_eql,zR2];rfl,.one rfl (.d (.bool _))⟩
 ·cases hd;exact⟨_,by rw[binOp_string_neq,zR2];rfl,.one rfl (.d (.bool _))⟩
 ·cases hd;exact⟨_,by rw[binOp_string_lss];rfl,.one rfl (.d (.bool _))⟩
 ·cases hd;exact⟨_,by rw[binOp_string_leq];rfl,.one rfl (.d (.bool _))⟩
 ·cases hd;exact⟨_,by rw[binOp_string_gtr];rfl,.one rfl (.d (.bool _))⟩
 ·cases hd;exact⟨_,by rw[binOp_string_geq];rfl,.one rfl (.d (.bool _))⟩
theorem zo0 {op:BinOp} {t:TypeId} {ox oy:Operand} {x y:Value} (hx:x≠.nilIface) (hx':∀cs,x≠.agg cs):eqGuard op t ox oy x y=pure ():=by
 unfold eqGuard;cases op<;>first|rfl|(cases x<;>first|rfl|exact absurd rfl hx|exact absurd rfl (hx' _))
theorem jn5 {t:TypeId} {i:TI} (ht:ti P t=some i) {op:BinOp} {u v:V} {x y:Value} {d:D} (hx:aZ w μ h u x) (hy:aZ w μ h v y) (hd:gV h i.kd op u v=some d) (ox oy:Operand) :
  ∃z,(do eqGuard op t ox oy x y;binOp op t x y:Sem Value).run P w = .ok z w∧aZ w μ h (.one (.d d)) z:=by
 obtain⟨I,dd,h1,h2,h3,h4,h5,h6,h7,_⟩:=fE ht;have go:∀{z:Value},x≠.nilIface→(∀cs,x≠.agg cs)→(binOp op t x y).run P w = .ok z w→(do eqGuard op t ox oy x y;binOp op t x y:Sem Value).run P w = .ok z w:=by
  intro z a b c;rw[zo0 a b];exact c
 unfold gV at hd;split at hd
 ·split at hd
  ·rename_i k a k' b hk;subst hk;cases hx with|one _ hx=>cases hx with|d hx=>cases hx with
   |int=>
   cases hy with|one _ hy=>cases hy with|d hy=>cases hy with
   |int=>
   obtain⟨z,hz,hr⟩:=jn3 (P:=P) (w:=w) (μ:=μ) (h:=h) hd t;exact⟨z,go (by simp) (by simp) hz,hr⟩
  ·cases hd
 ·cases hx with|one _ hx=>cases hx with|d hx=>cases hx with
  |str=>
  cases hy with|one _ hy=>cases hy with|d hy=>cases hy with
  |str=>
  obtain⟨z,hz,hr⟩:=jn4 (P:=P) (w:=w) (μ:=μ) (h:=h) hd t;exact⟨z,go (by simp) (by simp) hz,hr⟩
 ·cases hx with|one _ hx=>cases hx with|d hx=>cases hx with
  |bool=>
  cases hy with|one _ hy=>cases hy with|d hy=>cases hy with
  |bool=>
  split at hd
  ·rename_i hk;have hu:P.underlying t=some .bool:=by rw[h2];rw[h7]at hk;rw[zR3 hk]
   cases hd;exact⟨_,go (by simp) (by simp) (run_eql_bool w t _ _ hu),.one rfl (.d (.bool _))⟩
  ·rename_i hk;have hu:P.underlying t=some .bool:=by rw[h2];rw[h7]at hk;rw[zR3 hk]
   cases hd;exact⟨_,go (by simp) (by simp) (by rw[run_neq_bool w t _ _ hu];rfl),.one rfl (.d (.bool _))⟩
  ·cases hd
 ·rename_i l;have hy':y = .pointer none:=by cases hy with|one _ hy=>cases hy with|d hy=>exact jn2 hy
  subst hy';have fin:∀b,uQ h l=some b→∃p,x = .pointer p∧p.isNone=b:=by
   intro b hb;have hl:aY w μ h l x:=by cases hx with|one _ hx=>exact hx|top=>exact .any
   unfold uQ at hb;split at hb
   ·cases hb
   ·cases hb
   ·rename_i hf hn;rcases zR5 hb hl with⟨rfl,rfl|rfl⟩|⟨rfl,⟨ad,rfl⟩|⟨f,cs,rfl⟩⟩
    ·exact⟨_,rfl,rfl⟩
    ·cases hl with
     |nilf=>exact absurd rfl hn
     |d hd=>cases hd
     |any=>cases hb
     |_=>simp_all [jE]
    ·exact⟨_,rfl,rfl⟩
    ·cases hl with
     |fn=>exact absurd rfl (hf _ _)
     |d hd=>cases hd
     |any=>cases hb
     |_=>simp_all [jE]
  split at hd
  ·rename_i b hk hb;cases hd;obtain⟨p,rfl,hp⟩:=fin b hb;rw[h7]at hk;obtain⟨e,rfl⟩:=zR4 hk;exact⟨_,go (by simp) (by simp) (run_eql_pointer_nil w t p (by simp[Program.pointee,h2])),by rw[hp];exact .one rfl (.d (.bool _))⟩
  ·rename_i b hk hb;cases hd;obtain⟨p,rfl,hp⟩:=fin b hb;rw[h7]at hk;obtain⟨e,rfl⟩:=zR4 hk;exact⟨_,go (by simp) (by simp) (run_neq_pointer_nil w t p (by simp[Program.pointee,h2])),by rw[hp];exact .one rfl (.d (.bool _))⟩
  ·cases hd
 ·cases hd
set_option linter.unusedSectionVars false
set_option linter.unusedVariables false
variable [cJ]
variable {P:Program} {w:World} {μ:Pl} {h:aB} {T:Sl} {a:Act}
theorem zo1 (s:dP w μ h T a):∀{ps:List Operand} {vs:List V},eO T ps=some vs→vs.length=ps.length∧∀(j:Nat) (v:V) (q:Operand),vs[j]?=some v→ps[j]?=some q→aZ w μ h v (a.eval q)
 |[],vs,hv=>by cases hv;exact⟨rfl,by simp⟩
 |x::r,vs,hv=>by
  unfold eO at hv;split at hv
  ·rename_i v vs' hx hr;cases hv;obtain⟨h1,h2⟩:=zo1 s hr;refine⟨by simp[h1],?_⟩;intro j v' q hj hq;cases j with
   |zero=>simp at hj hq;subst hj;subst hq;exact bR s hx
   |succ j=>exact h2 j v' q (by simpa using hj) (by simpa using hq)
  ·cases hv
theorem zo2:∀{vs:List V} {ls:List L},mV vs=some ls→vs=ls.map .one
 |[],ls,hv=>by cases hv;rfl
 |v::r,ls,hv=>by
  cases v with
  |one l=>
   unfold mV at hv;split at hv
   ·rename_i ls' hr;cases hv;rw[zo2 hr];rfl
   ·cases hv
  |agg _=>cases hv
  |tup _=>cases hv
theorem aZ.l {l:L} {x:Value} (hx:aZ w μ h (.one l) x):aY w μ h l x:=by
 cases hx with
 |one _ hl=>exact hl
 |top=>exact .any
theorem aZ.int {k:IntKind} {n:Int} {x:Value} (hx:aZ w μ h (.one (.d (.int k n))) x):x = .int k n:=by
 cases hx with|one _ hx=>cases hx with|d hx=>cases hx with|int=>rfl
theorem aZ.bool {b:Bool} {x:Value} (hx:aZ w μ h (.one (.d (.bool b))) x):x = .bool b:=by
 cases hx with|one _ hx=>cases hx with|d hx=>cases hx with|bool=>rfl
theorem aZ.str {b:ByteArray} {x:Value} (hx:aZ w μ h (.one (.d (.str b))) x):x = .string b:=by
 cases hx with|one _ hx=>cases hx with|d hx=>cases hx with|str=>rfl
theorem zR6 (T:Sl) (s:dP w μ h T a) {x:Option Operand} {l:Option V} (hx:kT T x=some l) {n y:Nat} (d:Nat) (hn:fF d l=some n) (hle:n≤y) (code:BoundsCode) :
  (∃v,x.map a.eval=some v∧(Instr.sliceBound v y code).run P w = .ok n w)∨(x.map a.eval=none∧n=d):=by
 cases x with
 |none=>cases hx;cases hn;exact .inr ⟨rfl,rfl⟩
 |some x=>
  unfold kT at hx;simp only at hx;split at hx
  ·rename_i v hv;cases hx;unfold fF at hn;split at hn
   ·rename_i heq;cases heq
   ·rename_i k n' heq;cases heq;split at hn
    ·rename_i h0;cases hn;have:=(bR s hv).int;refine .inl ⟨_,rfl,?_⟩;rw[this];exact run_sliceBound w k n' y code h0 (by omega)
    ·cases hn
   ·cases hn
  ·cases hx
theorem uS (T:Sl) (s:dP w μ h T a) {lo hi:Option Operand} {l k:Option V} (hlo:kT T lo=some l) (hhi:kT T hi=some k) {n m len cap:Nat} (isS:Bool)
  (hl:fF 0 l=some n) (hk:fF len k=some m) (h1:n≤m) (h2:m≤len) (h3:len≤cap) :
  (Instr.sliceBounds isS len cap (lo.map a.eval) (hi.map a.eval) none).run P w = .ok (n,m,cap) w:=by
 have b1:=fun code=>zR6 (P:=P) (w:=w) T s hlo (y:=m) 0 hl h1 code;have b2:=fun code=>zR6 (P:=P) (w:=w) T s hhi (y:=cap) len hk (by omega) code;unfold Instr.sliceBounds;rcases b2 (if isS then .sliceAcap else .sliceAlen)with⟨v2,e2,r2⟩|⟨e2,rfl⟩<;>rcases b1 .sliceB with⟨v1,e1,r1⟩|⟨e1,rfl⟩
 ·simp only[e1,e2,Sem.run_bind,Sem.run_pure,Result.andThen,r2,kH9,kx8,if_false,r1]
 ·simp only[e1,e2,Sem.run_bind,Sem.run_pure,Result.andThen,r2]
 ·simp only[e1,e2,Sem.run_bind,Sem.run_pure,Result.andThen,kH9,kx8,if_false,r1]
 ·simp only[e1,e2,Sem.run_bind,Sem.run_pure,Result.andThen]
theorem zc4 {n:Nat} {xs:List (List D)} (ha:mC n xs=true) {i:Nat} {e:List D} (hi:xs[i]?=some e):e.length=n:=by
 have:=List.all_eq_true.1 ha e (kq0 hi);simpa using this
theorem jn6 (b m cap sz:Nat):sliced (some ⟨b,0,none⟩) 0 m cap sz = .slice (some ⟨b,0,none⟩) m cap:=by
 unfold sliced;split<;>simp[Addr.add]
theorem jn7 {t:TypeId} {i:TI} (ht:ti P t=some i) (s:dP w μ h T a) {v u:V} {x:Value} (hx:aZ w μ h v x) {lo hi:Option Operand} {l k:Option V} (hlo:kT T lo=some l) (hhi:kT T hi=some k)
  (hv:dL h i.kd i.el v l k=some u):∃y,(Instr.sliceAt t x (lo.map a.eval) (hi.map a.eval) none).run P w = .ok y w∧aZ w μ h u y:=by
 obtain⟨I,d,h1,h2,h3,h4,h5,h6,h7,h8,h9,h10,_⟩:=fE ht;unfold dL at hv;split at hv
 ·rename_i hkd;split at hv
  ·rename_i n m e hn hm hel;split at hv
   ·rename_i hc;obtain⟨rfl,rfl⟩:=hc;cases hv;rw[h7]at hkd;obtain⟨et,rfl⟩:=pJ hkd;have hE:iU P et=some e:=by rw[←h9 et rfl];exact hel
    have het:P.elem t=et:=by simp[Program.elem,h2]
    have ht':P.underlying t=some (.slice (P.elem t)):=by rw[het];exact h2
    cases hx with|one _ hx=>cases hx with|nils=>
    refine⟨.slice none 0 0,?_,.one rfl .nils⟩;rw[run_sliceAt_slice w t _ _ _ _ ht',run_slice_any w t none 0 0 ht',uS T s hlo hhi true hn hm (ks0 _) (ks0 _) (ks0 _),het];simp[Result.andThen,oP hE,sliced]
   ·cases hv
  ·cases hv
 ·rename_i xs hkd;split at hv
  ·rename_i n m e hn hm hel;split at hv
   ·rename_i hc;obtain⟨c1,c2,c3⟩:=hc;cases hv;rw[h7]at hkd;obtain⟨et,rfl⟩:=pJ hkd;have hE:iU P et=some e:=by rw[←h9 et rfl];exact hel
    have het:P.elem t=et:=by simp[Program.elem,h2]
    have ht':P.underlying t=some (.slice (P.elem t)):=by rw[het];exact h2
    have run:∀(A:Option Addr) (len cap:Nat),xs.length=len→len≤cap→(Instr.sliceAt t (.slice A len cap) (lo.map a.eval) (hi.map a.eval) none).run P w = .ok (sliced A n m cap e.size) w:=by
     intro A len cap el hcap;rw[run_sliceAt_slice w t _ _ _ _ ht',run_slice_any w t A len cap ht',uS T s hlo hhi true hn (by rw[←el];exact hm) c1 (by omega) hcap,het];simp only[Result.andThen,oP hE]
    cases hx with|one _ hx=>cases hx with|d hx=>cases hx with
    |sl0 A cap=>
     refine⟨_,run A 0 cap rfl (kt1 _),?_⟩;simp at c2;have e1:n=0:=by omega
     subst e1;subst c2;exact .one rfl (.d (by simpa[sliced]using cM.sl0 _ _))
    |sl sz _ b off cap vs hne hb hlt hcap hlen hcell hd=>
     refine⟨_,run _ _ cap rfl hcap,?_⟩;unfold sliced;by_cases hnm:n=m
     ·subst hnm;have:(xs.take n).drop n=[]:=by simp
      rw[this,kD4];exact .one rfl (.d (.sl0 _ _))
     ·rw[if_neg (by omega)];simp only[kt9,gW];have hlen':((xs.take m).drop n).length=m-n:=by simp;omega
      have hget:∀{q:Nat} {el:List D},((xs.take m).drop n)[q]?=some el→xs[n+q]?=some el:=by
       intro q el hq;have hlt':q<m-n:=by have:=(kp9.1 hq).1;omega
       rw[kv4,ks5 (by omega)]at hq;exact hq
      have hstep:n*e.size=n*sz:=by
       rcases c3 with rfl|c3
       ·simp
       ·have hx0:0<xs.length:=by omega
        have e1:=hlen 0 _ (kr1 hx0);have e2:=zc4 c3 (kr1 hx0);rw[←e1,←e2]
      have:=cM.sl (w:=w) (M:=Mut μ h) sz ((xs.take m).drop n) b (off+n*sz) (cap-n) (fun i j=>vs (n+i) j) (by intro hh;rw[hh]at hlen';simp at hlen';omega) hb hlt (by omega)
       (fun q el hq=>hlen _ _ (hget hq))
       (fun q j el y hq hj=>by
        have:=hcell _ _ _ _ (hget hq) hj;rw[←this,Nat.add_mul];congr 2;omega)
       (fun q j el y hq hj=>hd _ _ _ _ (hget hq) hj)
      rw[hlen']at this;rw[hstep];exact .one rfl (.d this)
   ·cases hv
  ·cases hv
 ·rename_i id ver len hkd;split at hv
  ·rename_i m ty fz sz ver' xs e hm hid hel;split at hv
   ·rename_i hc;obtain⟨c1,rfl⟩:=hc;cases hv;rw[h7]at hkd;obtain⟨et,rfl⟩:=pJ hkd;have hE:iU P et=some e:=by rw[←h9 et rfl];exact hel
    have het:P.elem t=et:=by simp[Program.elem,h2]
    have ht':P.underlying t=some (.slice (P.elem t)):=by rw[het];exact h2
    have run:∀(A:Option Addr) (cap:Nat),len≤cap→(Instr.sliceAt t (.slice A len cap) (lo.map a.eval) (hi.map a.eval) none).run P w = .ok (sliced A 0 m cap e.size) w:=by
     intro A cap hcap;rw[run_sliceAt_slice w t _ _ _ _ ht',run_slice_any w t A len cap ht',uS T s hlo hhi true (n:=0) rfl hm (kt1 _) c1 hcap,het];simp only[Result.andThen,oP hE]
    cases hx with|one _ hx=>
    cases hx with
    |own hid' hl hμ hcap hb hcs=>
     refine⟨_,run _ _ hcap,?_⟩;rw[jn6];exact .one rfl (.own hid' (kD2 c1 hl) hμ (kD2 c1 hcap) hb hcs)
    |ownNil hid' hμ=>
     refine⟨_,run _ _ (ks0 _),?_⟩;have e0:m=0:=by omega
     subst e0;exact .one rfl (by simpa[sliced]using aY.ownNil hid' hμ)
    |ownOld hid' hv=>rw[hid]at hid';cases hid';omega
    |ownDead hid'=>rw[hid]at hid';cases hid'
   ·cases hv
  ·rename_i lo0 m ty fz sz ver' xs e hm hid hel;split at hv
   ·rename_i n hn;split at hv
    ·rename_i hc;obtain⟨c1,c2,rfl,c3⟩:=hc;rw[h7]at hkd;obtain⟨et,rfl⟩:=pJ hkd;have hE:iU P et=some e:=by rw[←h9 et rfl];exact hel
     have het:P.elem t=et:=by simp[Program.elem,h2]
     have ht':P.underlying t=some (.slice (P.elem t)):=by rw[het];exact h2
     have run:∀(A:Option Addr) (cap:Nat),len≤cap→(Instr.sliceAt t (.slice A len cap) (lo.map a.eval) (hi.map a.eval) none).run P w = .ok (sliced A n m cap e.size) w:=by
      intro A cap hcap;rw[run_sliceAt_slice w t _ _ _ _ ht',run_slice_any w t A len cap ht',uS T s hlo hhi true hn hm c1 c2 hcap,het];simp only[Result.andThen,oP hE]
     cases hx with|one _ hx=>
     cases hx with
     |own hid' hl hμ hcap hb hcs=>
      rw[hid]at hid';cases hid';refine⟨_,run _ _ hcap,?_⟩;unfold sliced;split at hv
      ·rename_i hnm;subst hnm;cases hv;rw[kD4];exact .one rfl (.d (.sl0 _ _))
      ·rename_i hnm;cases hv;rw[if_neg (by omega)];simp only[kt9,gW,kt2,←c3];exact .one rfl (.osl hid (by omega) hμ (by omega) hb (by rw[Nat.add_sub_cancel' (by omega)];exact hcs))
     |ownNil hid' hμ=>
      have e0:m=0:=by omega
      have e1:n=0:=by omega
      subst e0 e1;refine⟨_,run _ _ (ks0 _),?_⟩;rw[if_pos rfl]at hv;cases hv;exact .one rfl (by simpa[sliced]using aY.d (.sl0 _ _))
     |ownOld hid' hv=>rw[hid]at hid';cases hid';omega
     |ownDead hid'=>rw[hid]at hid';cases hid'
    ·cases hv
   ·cases hv
  ·cases hv
 ·rename_i id off len hkd;split at hv
  ·rename_i n m ty cells e hn hm hid hel;split at hv
   ·rename_i hc;obtain⟨c0,c1,c2⟩:=hc;rw[h7]at hkd;obtain⟨et,rfl⟩:=pJ hkd;have hE:iU P et=some e:=by rw[←h9 et rfl];exact hel
    have het:P.elem t=et:=by simp[Program.elem,h2]
    have ht':P.underlying t=some (.slice (P.elem t)):=by rw[het];exact h2
    have run:∀(A:Option Addr) (cap:Nat),len≤cap→(Instr.sliceAt t (.slice A len cap) (lo.map a.eval) (hi.map a.eval) none).run P w = .ok (sliced A n m cap e.size) w:=by
     intro A cap hcap;rw[run_sliceAt_slice w t _ _ _ _ ht',run_slice_any w t A len cap ht',uS T s hlo hhi true hn hm c1 c2 hcap,het];simp only[Result.andThen,oP hE]
    cases hx with|one _ hx=>cases hx with
    |bslDead hid'=>rw[hid]at hid';cases hid'
    |@bsl _ _ _ _ _ _ b cap cs T' hid' hl hμ hcap hb hcs=>
     rw[hid]at hid';cases hid';refine⟨_,run _ _ hcap,?_⟩;unfold sliced;split at hv
     ·rename_i hnm;obtain⟨hnm,_⟩:=hnm;subst hnm;cases hv;rw[kD4];exact .one rfl (.d (.sl0 _ _))
     ·rename_i hnm;cases hv;by_cases h0:n=0
      ·subst h0;have:(⟨b,off,none⟩:Addr).add 0=⟨b,off,none⟩:=by rw[gW];rfl
       simp only[kt9,Nat.zero_mul,this,ite_self,kA5,Nat.sub_zero];exact .one rfl (.bsl hid (by omega) hμ (by omega) hb (by omega))
      ·rw[if_neg (by omega),c0,kJ9];simp only[kt9,gW];exact .one rfl (.bsl hid (by omega) hμ (by omega) hb (by omega))
   ·cases hv
  ·cases hv
 ·rename_i str hkd;split at hv
  ·rename_i n m hn hm;split at hv
   ·rename_i hc;cases hv;rw[h7]at hkd;have:=xD hkd;subst this;cases hx with|one _ hx=>cases hx with|d hx=>cases hx with
    |str=>
    refine⟨_,?_,.one rfl (.d (.str _))⟩;rw[run_sliceAt_string w t _ _ _ _ h2];unfold Instr.slice;simp only[Sem.run_bind,run_underlying h2,Result.andThen];simp[uS T s hlo hhi false hn hm hc.1 hc.2 (ks0 _),Result.andThen]
   ·cases hv
  ·cases hv
 ·cases hv
theorem jn8 {t:TypeId} {i:TI} (ht:ti P t=some i) {f:Nat} {v u:V} {x:Value} (hx:aZ w μ h v x) (hv:sQ i f v=some u):∃y,(Instr.field t x f).run P w = .ok y w∧aZ w μ h u y:=by
 obtain⟨I,d,h1,h2,h3,h4,h5,h6,h7,h8,h9,h10,_⟩:=fE ht;unfold sQ at hv;split at hv
 ·rename_i ls;split at hv
  ·rename_i F hk hF;split at hv
   ·rename_i hc;rw[h7]at hk;obtain⟨fs,rfl⟩:=zn2 hk;obtain⟨FF,hF1,hF2⟩:=zm8 (h8 fs rfl) hF;obtain⟨IF,dF,hF3,hF4,rfl⟩:=zm9 hF2;simp only at hc hv;have hF1':fs[f]?=some FF:=by simpa using hF1
    cases hx with
    |@agg _ cs e1 e2 e3=>
     have hs:(sizeOf FF.type).run P w = .ok IF.size w:=by simp[sizeOf,typeInfo,hF3,Result.andThen]
     have hagg:(isAgg FF.type).run P w = .ok (oO dF) w:=by
      simp only[isAgg,Sem.run_bind,run_underlying hF4,Result.andThen];cases dF<;>rfl
     split at hv
     ·rename_i hag;cases hv;refine⟨.agg (cs.extract FF.offset (FF.offset+IF.size)),?_,?_⟩
      ·simp only[Instr.field,Sem.run_bind,run_underlying h2,Result.andThen,hF1',asAgg,Sem.run_pure,part,hagg,hag,if_true,hs]
      ·refine .agg (by simp;omega) ?_ ?_
       ·intro j l u hj hu;have hjs:j<IF.size:=by
         have:=(kp9.1 hj).1;simp at this;omega
        rw[ks5 hjs,kv4]at hj;rw[kF2 (by omega)]at hu;exact e2 _ _ _ hj ((ks6 (by omega)).trans hu)
       ·intro u hu;obtain⟨j,hj,rfl⟩:=kz6 hu;rw[kG7];exact e3 _ (kC4 _)
     ·rename_i hag;split at hv
      ·rename_i l hl;cases hv;have hlt:FF.offset<cs.size:=by have:=(kp9.1 hl).1;omega
       refine⟨cs[FF.offset],?_,.one (e3 _ (kC4 _)) (e2 _ _ _ hl (ks6 hlt))⟩;simp only[Instr.field,Sem.run_bind,run_underlying h2,Result.andThen,hF1',asAgg,Sem.run_pure,part,hagg,hag];simp[ks6 hlt]
      ·cases hv
   ·cases hv
  ·cases hv
 ·cases hv
theorem jn9 {t:TypeId} {i:TI} (ht:ti P t=some i) {k:IntKind} {n:Int} {v u:V} {x:Value} (hx:aZ w μ h v x) (hv:zn6 i n v=some u):∃y,(Instr.index t x (.int k n)).run P w = .ok y w∧aZ w μ h u y:=by
 obtain⟨I,d,h1,h2,h3,h4,h5,h6,h7,h8,h9,h10,h11⟩:=fE ht;unfold zn6 at hv;split at hv
 ·rename_i ls;split at hv
  ·rename_i hn0;split at hv
   ·rename_i F hk hF;split at hv
    ·rename_i hc;rw[h7]at hk;obtain⟨m,e,rfl⟩:=zR0 hk;obtain⟨J,dd,g1,g2,hfl⟩:=h11 m e rfl;rw[hfl,ks1,kv7]at hF;obtain⟨k',hk',rfl⟩:=hF;obtain⟨hlm,rfl⟩:=zR1 hk';have hnm:n<(m:Int):=by omega
     simp only at hc hv;cases hx with
     |@agg _ cs e1 e2 e3=>
      have hs:(sizeOf e).run P w = .ok J.size w:=by simp[sizeOf,typeInfo,g1,Result.andThen]
      have hagg:(isAgg e).run P w = .ok (oO dd) w:=by
       simp only[isAgg,Sem.run_bind,run_underlying g2,Result.andThen];cases dd<;>rfl
      split at hv
      ·rename_i hag;cases hv;refine⟨.agg (cs.extract (n.toNat*J.size) (n.toNat*J.size+J.size)),?_,?_⟩
       ·simp only[Instr.index,asIntOf,Sem.run_bind,run_underlying h2,Result.andThen,Sem.run_pure,hn0,hnm,and_self,if_true,part,hagg,hag,hs]
       ·refine .agg (by simp;omega) ?_ ?_
        ·intro j l u hj hu;have hjs:j<J.size:=by
          have:=(kp9.1 hj).1;simp at this;omega
         rw[ks5 hjs,kv4]at hj;rw[kF2 (by omega)]at hu;exact e2 _ _ _ hj ((ks6 (by omega)).trans hu)
        ·intro u hu;obtain⟨j,hj,rfl⟩:=kz6 hu;rw[kG7];exact e3 _ (kC4 _)
      ·rename_i hag;split at hv
       ·rename_i l hl;cases hv;have hlt:n.toNat*J.size<cs.size:=by have:=(kp9.1 hl).1;omega
        refine⟨cs[n.toNat*J.size],?_,.one (e3 _ (kC4 _)) (e2 _ _ _ hl (ks6 hlt))⟩;simp only[Instr.index,asIntOf,Sem.run_bind,run_underlying h2,Result.andThen,Sem.run_pure,hn0,hnm,and_self,if_true,part,hagg,hag,hs];simp[ks6 hlt]
       ·cases hv
    ·cases hv
   ·cases hv
  ·cases hv
 ·cases hv
theorem jo0 {t:TypeId} {i:TI} (ht:ti P t=some i) {v:V} {x:Value} {n:Nat} (hx:aZ w μ h v x) (hv:iO h i.kd v=some n) (ty:TypeId) :
  (Builtin.len_ #[t] ty #[x]).run P w = .ok (.int .i64 n) w:=by
 obtain⟨I,d,h1,h2,h3,h4,h5,h6,h7,h8,h9,h10,_⟩:=fE ht;have sl:∀(A:Option Addr) (len cap:Nat),i.kd = .slice→(Builtin.len_ #[t] ty #[.slice A len cap]).run P w = .ok (.int .i64 len) w:=by
  intro A len cap hk;rw[h7]at hk;obtain⟨e,rfl⟩:=pJ hk;exact run_len_slice w t ty A len cap (by simp[Program.elem,h2])
 unfold iO at hv;split at hv
 ·split at hv
  ·rename_i hk;cases hv;cases hx with|one _ hx=>cases hx with|d hx=>cases hx with
   |sl0 A cap=>exact sl _ _ _ hk
   |sl=>exact sl _ _ _ hk
  ·cases hv
 ·split at hv
  ·rename_i hk;cases hv;cases hx with|one _ hx=>cases hx with
   |nils=>exact sl _ _ _ hk
  ·cases hv
 ·split at hv
  ·rename_i fz sz ver' xs hid;split at hv
   ·rename_i hk;obtain⟨hk,rfl⟩:=hk;cases hv;cases hx with|one _ hx=>cases hx with
    |own=>exact sl _ _ _ hk
    |ownNil=>exact sl _ _ _ hk
    |ownOld hid' hv=>rw[hid]at hid';cases hid';omega
    |ownDead hid'=>rw[hid]at hid';cases hid'
   ·cases hv
  ·cases hv
 ·split at hv
  ·rename_i cells hid;split at hv
   ·rename_i hk;cases hv;cases hx with|one _ hx=>cases hx with
    |bsl=>exact sl _ _ _ hk
    |bslDead hid'=>rw[hid]at hid';cases hid'
   ·cases hv
  ·cases hv
 ·split at hv
  ·rename_i fz sz ver' xs hid;split at hv
   ·rename_i hk;obtain⟨hk,rfl⟩:=hk;cases hv;cases hx with|one _ hx=>cases hx with
    |osl=>exact sl _ _ _ hk
    |oslOld hid' hv=>rw[hid]at hid';cases hid';omega
    |oslDead hid'=>rw[hid]at hid';cases hid'
   ·cases hv
  ·cases hv
 ·split at hv
  ·rename_i hk';cases hv;cases hx with|one _ hx=>cases hx with|d hx=>cases hx with
   |str=>
   rw[h7]at hk';have:=xD hk';subst this;simp[Builtin.len_,run_underlying h2,Result.andThen,goInt]
  ·cases hv
 ·cases hv
theorem jo1 {c x y:Operand} (s:dP w μ h T a) {b v:V} (hb:opd T c=some b) (hv:pK b (opd T x) (opd T y)=some v) :
  ∃t,a.eval c = .bool t∧aZ w μ h v (if t then a.eval x else a.eval y):=by
 unfold pK at hv;split at hv
 ·rename_i t p q hx hy;cases hv;have e1:=(bR s hb).bool;refine⟨t,e1,?_⟩;cases t
  ·exact bR s hy
  ·exact bR s hx
 ·exact⟨true,(bR s hb).bool,bR s hv⟩
 ·exact⟨false,(bR s hb).bool,bR s hv⟩
 ·cases hv
theorem aR.shape (H:aR w μ h) {id:Nat} {T:TypeId} {cells:List L} (hid:h[id]?=some (.bx (some T) cells)) {b:Nat} (hb:μ id=some b):w.shape? b=some (T,cells.length):=H.ty id _ b hid hb
theorem jo2 {s t:TypeId} {id ver len sz ver':Nat} {fz:Bool} {ty:Option TypeId} {xs:List (List D)} {bs:List UInt8} {x:Value} (H:aR w μ h) (hc:xA P s=true∧ver'=ver∧sz=1∧len≠0∧len≤xs.length) (hbs:mU (xs.take len)=some bs)
  (hid:h[id]?=some (.ar ty fz sz ver' xs)) (ht:P.underlying t=some .string) (hx:aY w μ h (.own id ver len) x):(convert s t x).run P w = .ok (.string ⟨bs.toArray⟩) w:=by
 obtain⟨hb,rfl,rfl,hne,hle⟩:=hc;obtain⟨e,hs,he⟩:∃e,P.underlying s=some (.slice e)∧P.underlying e=some (.int .u8):=by
  unfold xA at hb;split at hb
  ·rename_i e he;split at hb
   ·rename_i he2;exact⟨e,he,he2⟩
   ·cases hb
  ·cases hb
 obtain⟨hlen,hget⟩:=zm7 hbs;have hl:bs.length=len:=by rw[hlen,List.length_take];omega
 generalize hn:len=n at hx;cases hx with
 |ownOld h1 h2=>rw[hid]at h1;cases h1;omega
 |ownDead h1=>rw[hid]at h1;cases h1
 |ownNil h1 hμ=>omega
 |@own _ _ _ _ _ _ _ _ b cap cs T h1 hlen' hμ hcap hb' hcs=>
  rw[hid]at h1;cases h1;rcases H.arr _ _ _ _ _ hid with⟨hn',_⟩|⟨b2,cs2,T2,q1,q2,q3,q4,q5,q6⟩
  ·rw[hμ]at hn';cases hn'
  rw[hμ]at q1;cases q1;have hB:Lib.Bytes w b 0 ⟨bs.toArray⟩:=by
   intro j hj;have hj':j<bs.length:=by
    have:(⟨bs.toArray⟩:ByteArray).size=bs.toArray.size:=rfl;rw[this]at hj;simpa using hj
   have h2:=hget j _ (kr1 hj');rw[ks5 (by omega)]at h2;obtain⟨u,hu,hr⟩:=q6 j 0 _ _ h2 rfl;cases hr;unfold World.cell?;simp only[q2,kt2];rw[kJ9,kA5]at hu;exact hu
  have:=Lib.run_convert_whole (P:=P) w s e t hs he ht b 0 ⟨bs.toArray⟩ hB cap;have hsz:(⟨bs.toArray⟩:ByteArray).size=len:=by
   show bs.toArray.size=len;simpa using hl
  rw[hsz,hn]at this;exact this
theorem jo3 {s t:TypeId} {id off:Nat} {x:Value} (H:aR w μ h) (hc:qY P h s t id off=true) (hx:aY w μ h (.ptr id off) x):(convert s t x).run P w = .ok x w:=by
 unfold qY at hc;split at hc
 ·rename_i T cells hid;cases hx with
  |ptrDead hd=>rw[hid]at hd;cases hd
  |@ptr _ _ _ _ b hid' hoff hμ=>
   have hsh:=H.shape hid hμ;split at hc
   ·rename_i u e1 e2;simp only[ks2,decide_eq_true_eq]at hc;obtain⟨h1,h2⟩:=hc;split at h1
    ·rename_i j hj;exact Lib.run_to_unsafe w ⟨b,off,none⟩ e1 e2 hj (by simpa using h1) hsh h2
    ·cases h1
   ·rename_i u e1 e2;simp only[ks2]at hc;obtain⟨h1,h2⟩:=hc;obtain⟨j,hj⟩:=kF8.1 h1;exact Lib.run_from_unsafe w ⟨b,off,none⟩ e1 e2 hj hsh h2
   ·cases hc
 ·cases hc
theorem jo4 {t:TypeId} {i:TI} (ht:ti P t=some i) {op:BinOp} {u v:V} {x y:Value} {d:D} (hx:aZ w μ h u x) (hy:aZ w μ h v y) (hd:gZ P h t i.kd op u v=some d) (ox oy:Operand) :
  ∃z,(do eqGuard op t ox oy x y;binOp op t x y:Sem Value).run P w = .ok z w∧aZ w μ h (.one (.d d)) z:=by
 unfold gZ at hd;split at hd
 ·rename_i d' he;cases hd;exact jn5 ht hx hy he ox oy
 ·split at hd
  rotate_left
  ·cases hd
  unfold zc2 at hd;split at hd
  ·rename_i id off id' off';split at hd
   ·rename_i e;obtain⟨rfl,rfl⟩:=e;split at hd
    ·rename_i ty cells e hid hu;cases hx with|one _ hx=>
     cases hy with|one _ hy=>
     cases hx with
     |ptrDead hd'=>rw[hid]at hd';cases hd'
     |@ptr _ _ _ _ b hid' hoff hμ=>
     cases hy with
     |ptrDead hd'=>rw[hid]at hd';cases hd'
     |@ptr _ _ _ _ b2 hid2 hoff2 hμ2=>
     rw[hμ]at hμ2;cases hμ2;split at hd
     ·rename_i j hj;cases hd;exact⟨_,by rw[zo0 (by simp) (by simp)];exact run_eql_ptr_same w _ hu hj,.one rfl (.d (.bool _))⟩
     ·rename_i j hj;cases hd;exact⟨_,by rw[zo0 (by simp) (by simp)];exact Lib.run_neq_ptr_same w _ hu hj,.one rfl (.d (.bool _))⟩
     ·cases hd
    ·cases hd
   ·cases hd
  ·cases hd
theorem jo5 {o:Oper} {v:V} {h':aB} (H:aR w μ h) (s:dP w μ h T a) (hv:vop P T h o=some (v,h')):dT P w μ h (execOp a.eval o) v h':=by
 unfold vop at hv;split at hv
 ·rename_i x ho;split at hv
  ·rename_i u hx;cases hv;exact dT.same H (bR s hx) (by simp[execOp,ho])
  ·cases hv
 ·rename_i x ho;split at hv
  ·rename_i u hx;cases hv;exact dT.same H (bR s hx) (by simp[execOp,ho])
  ·cases hv
 ·rename_i c x y ho;split at hv
  ·rename_i b hb;split at hv
   ·rename_i u hu;cases hv;obtain⟨t,e1,e2⟩:=jo1 s hb hu;exact dT.same H e2 (by simp[execOp,ho,e1,asBool])
   ·cases hv
  ·cases hv
 ·rename_i e ho;split at hv
  ·rename_i i hi;split at hv
   ·rename_i z hz;split at hv
    ·rename_i ls hls;cases hv;obtain⟨x,hx,hax⟩:=jm3 (P:=P) (w:=w) hi hz;have hne:ls≠[.any]:=by
      intro e;subst e;unfold jL at hax;split at hax
      ·rename_i cs;cases hc:nS cs.toList with
       |none=>simp[hc]at hax
       |some l=>
        simp[hc]at hax;subst hax;cases hls;cases hcs:cs.toList with
        |nil=>rw[hcs]at hc;cases hc
        |cons y r=>
         rw[hcs]at hc;unfold nS at hc;split at hc
         ·rename_i l' ls' hl' hls';cases hc;unfold oN at hl';split at hl'<;>cases hl'
         ·cases hc
      ·cases hc:oN x with
       |none=>simp[hc]at hax
       |some l=>
        simp[hc]at hax;subst hax;cases hls;unfold oN at hc;split at hc<;>cases hc
     obtain⟨μ',r1,r2,r3,r4⟩:=jm4 (P:=P) H (xB hax) hls hne e;refine⟨_,_,μ',_,?_,.inl rfl,r2,.one rfl r3,r4⟩;simp[execOp,ho,Instr.alloc,hx,r1,Result.andThen]
    ·cases hv
   ·cases hv
  ·cases hv
 ·rename_i e x ho;split at hv
  ·rename_i u hx;split at hv
   ·rename_i hk;split at hv
    ·rename_i ls hls;cases hv;obtain⟨e1,e2,e3⟩:=(bR s hx).cells' hls hk;refine⟨_,_,_,_,?_,.inl rfl,zQ5 (t:=e) H e1 e2 e3,.one rfl zQ6,Good.push _ _ _ _ _⟩;simp[execOp,ho,Instr.box,newVar,newRow,Result.andThen]
    ·cases hv
   ·cases hv
  ·cases hv
 ·rename_i t ps ho;split at hv
  ·rename_i i vs hi hvs;split at hv
   ·rename_i u hu;cases hv;obtain⟨e1,e2⟩:=zc3 s hvs;obtain⟨x,hx,hr⟩:=jn1 (P:=P) (w:=w) (μ:=μ) (h:=h) hi (xs:=ps.toList.map fun q=>(q.1,a.eval q.2)) (by simpa using e1) (fun j p x hj hx=>by
     rw[ks1]at hx;cases hq:ps.toList[j]? with
     |none=>simp[hq]at hx
     |some q=>
      simp[hq]at hx;subst hx;exact e2 j p.1 p.2 q hj hq) hu
    refine dT.same H hr ?_;have:(ps.map fun q=>(q.1,a.eval q.2))=(ps.toList.map fun q=>(q.1,a.eval q.2)).toArray:=by rw[←Array.toList_map]
    simp[execOp,ho,this,hx,Result.andThen]
   ·cases hv
  ·cases hv
 ·rename_i t x ho;split at hv
  ·rename_i i l hi hx;split at hv
   ·rename_i u hu;cases hv;obtain⟨y,hy,hr⟩:=zQ4 H hi (bR s hx).l hu;exact dT.same H hr (by simp[execOp,ho,hy,Result.andThen])
   ·cases hv
  ·cases hv
 ·rename_i t p x ho;split at hv
  ·rename_i i l u hi hp hx;split at hv
   ·rename_i hk;split at hv
    ·rename_i h2 hs;cases hv;obtain⟨w',r1,r2,r3⟩:=jn0 hi H hk (bR s hp).l (bR s hx) hs;exact⟨_,w',μ,undef,by simp[execOp,ho,r1,Result.andThen],.inr ⟨rfl,rfl⟩,r2,.top,r3⟩
    ·cases hv
   ·cases hv
  ·cases hv
 ·rename_i x ho;split at hv
  ·rename_i l hx;split at hv
   ·rename_i hn;cases hv;have hr:=bR s hx;refine dT.same H hr ?_;rcases zR5 hn hr.l with⟨e,_⟩|⟨_,⟨ad,e⟩|⟨f,cs,e⟩⟩
    ·cases e
    ·simp[execOp,ho,e]
    ·simp[execOp,ho,e]
   ·cases hv
  ·cases hv
 ·rename_i op t x y ty ho;split at hv
  ·rename_i i u v' hi hx hy;split at hv
   ·rename_i d hd;cases hv;obtain⟨z,hz,hr⟩:=jo4 hi (bR s hx) (bR s hy) hd x y;refine dT.same H hr ?_;simp only[execOp,ho,Sem.run_bind,Sem.run_pure]at hz ⊢;rw[hz];rfl
   ·cases hv
  ·cases hv
 ·rename_i op t x ho;split at hv
  ·rename_i b hop hx;cases hv;exact dT.same H (.one rfl (.d (.bool _))) (by simp[execOp,ho,(bR s hx).bool,Op.unary])
  ·rename_i k n hop hx;cases hv;exact dT.same H (.one rfl (.d (.int _ _))) (by simp[execOp,ho,(bR s hx).int,Op.unary,Op.intArith])
  ·cases hv
 ·rename_i src dst x ho;split at hv
  ·rename_i i j k n hi hj hx;split at hv
   ·rename_i k' hk;cases hv;obtain⟨I,d,h1,h2,_⟩:=fE hi;obtain⟨J,d',h1',h2',_,_,_,_,h7',_⟩:=fE hj;rw[h7']at hk;have:=jm5 hk;subst this;exact dT.same H (.one rfl (.d (.int _ _))) (by simp[execOp,ho,(bR s hx).int,convert,run_underlying h2,run_underlying h2',Conv.intToInt,Result.andThen])
   ·cases hv
  ·rename_i i j b hi hj hx;split at hv
   ·rename_i hk;cases hv;obtain⟨I,d,h1,h2,_⟩:=fE hi;obtain⟨J,d',h1',h2',_,_,_,_,h7',_⟩:=fE hj;rw[h7']at hk;have:=xD hk;subst this;exact dT.same H (.one rfl (.d (.str _))) (by cases d<;>simp[execOp,ho,(bR s hx).str,convert,run_underlying h2,run_underlying h2',Result.andThen])
   ·cases hv
  ·rename_i i j id off hi hj hx;split at hv
   ·cases hv
   ·cases hv
   split at hv
   ·rename_i hc;cases hv;have hr:=bR s hx;refine dT.same H hr ?_;have:=jo3 (P:=P) H hc hr.l;simp[execOp,ho,this,Result.andThen]
   ·cases hv
  ·rename_i i j id ver len hi hj hx;split at hv
   ·rename_i ty fz sz ver' xs hki hkj hid;split at hv
    ·rename_i hc;split at hv
     ·rename_i bs hbs;cases hv;have hr:=bR s hx;refine dT.same H (.one rfl (.d (.str _))) ?_;have:=jo2 (P:=P) H hc hbs hid (by
       obtain⟨J,d',h1',h2',_,_,_,_,h7',_⟩:=fE hj;rw[h7']at hkj;have:=xD hkj;subst this;exact h2') hr.l
      simp[execOp,ho,this,Result.andThen]
     ·cases hv
    ·cases hv
   ·cases hv
  ·cases hv
 ·rename_i f first caps ho
  split at hv
  ·rename_i hf;split at hv
   ·rename_i vs hvs;split at hv
    ·rename_i ls hls;cases hv;obtain⟨e1,e2⟩:=zo1 s hvs;have:=zo2 hls;subst this;have hf':first=#[]:=kE8 hf
     refine dT.same H (x:=.func (.func f) #[] (caps.map a.eval)) (.one rfl (.fn (by simpa using e1) ?_)) (by simp[execOp,ho,Instr.makeFunc,hf']);intro j l u hj hu;rw[kF0]at hu;cases hq:caps[j]? with
     |none=>simp[hq]at hu
     |some q=>
      simp[hq]at hu;subst hu;exact(e2 j (.one l) q (by simp[hj]) (by simpa using hq)).l
    ·cases hv
   ·cases hv
  ·split at hv
   ·rename_i hf;split at hv
    ·rename_i vs hvs;split at hv
     ·rename_i ls hls;cases hv;obtain⟨e1,e2⟩:=zo1 s hvs;have:=zo2 hls;subst this;have hf':caps=#[]:=kE8 hf;refine dT.same H (x:=.func (.func f) (first.map a.eval) #[]) (.one rfl (.fb (by simpa using e1) ?_)) (by simp[execOp,ho,Instr.makeFunc,hf']);intro j l u hj hu;rw[kF0]at hu;cases hq:first[j]? with
      |none=>simp[hq]at hu
      |some q=>
       simp[hq]at hu;subst hu;exact(e2 j (.one l) q (by simp[hj]) (by simpa using hq)).l
     ·cases hv
    ·cases hv
   ·cases hv
 ·rename_i t x lo hi ho;split at hv
  ·rename_i i u l k hi' hx hlo hhi;split at hv
   ·rename_i r hr;cases hv;obtain⟨y,hy,hrep⟩:=jn7 (P:=P) hi' s (bR s hx) hlo hhi hr;exact dT.same H hrep (by simp[execOp,ho,hy,Result.andThen])
   ·cases hv
  ·cases hv
 ·rename_i t x y m ho;split at hv
  ·rename_i i kp p kq q hi hx hy hm;split at hv
   ·rename_i hc;obtain⟨hk,hel,rfl,rfl⟩:=hc;cases hv;obtain⟨I,d,h1,h2,_,_,_,_,h7,_,h9,_⟩:=fE hi;rw[h7]at hk;obtain⟨et,rfl⟩:=pJ hk;obtain⟨E,hE'⟩:=kF8.1 hel;have hE:iU P et=some E:=by rw[←h9 et rfl];exact hE'
    have het:P.elem t=et:=by simp[Program.elem,h2]
    have ht':P.underlying t=some (.slice (P.elem t)):=by rw[het];exact h2
    have hxs:a.eval x = .slice none 0 0:=by
     have:=(bR s hx).l;generalize a.eval x=z at this;cases this;rfl
    refine dT.same H (x:=.slice none 0 0) (.one rfl .nils) ?_;have r1:=run_sliceBound w kq 0 0 .slice3Acap (P:=P) (by omega) (by omega);have r2:=run_sliceBound w kp 0 0 .slice3B (P:=P) (by omega) (by omega);have hb:(Instr.sliceBounds true 0 0 none (some (.int kp 0)) (some (.int kq 0))).run P w = .ok (0,0,0) w:=by
     unfold Instr.sliceBounds;simp only[if_true,Sem.run_bind,r1,Result.andThen];simp only[Int.toNat_zero,r2,Result.andThen,Sem.run_pure,Sem.run_bind]
    have hr:(Instr.sliceAt t (.slice none 0 0) none (some (.int kp 0)) (some (.int kq 0))).run P w = .ok (.slice none 0 0) w:=by
     rw[run_sliceAt_slice w t _ _ _ _ ht',run_slice_any w t none 0 0 ht',hb,het];simp only[Result.andThen,oP hE];rfl
    simp[execOp,ho,hxs,(bR s hy).int,(bR s hm).int,hr,Result.andThen]
   ·cases hv
  ·cases hv
 ·rename_i t x f ho;split at hv
  ·rename_i i l hi hx;split at hv
   ·rename_i F hk hF;split at hv
    ·cases hv
    ·rename_i h0;split at hv
     ·rename_i q hq;cases hv;obtain⟨y,hy,hr,h1⟩:=jm6 (P:=P) hi hk hF h0 (bR s hx).l hq;exact dT.same H (.one h1 hr) (by simp[execOp,ho,hy,Result.andThen])
     ·cases hv
   ·cases hv
  ·cases hv
 ·rename_i t x f ho;split at hv
  ·rename_i i u hi hx;split at hv
   ·rename_i q hq;cases hv;obtain⟨y,hy,hr⟩:=jn8 (P:=P) hi (bR s hx) hq;exact dT.same H hr (by simp[execOp,ho,hy,Result.andThen])
   ·cases hv
  ·cases hv
 ·rename_i t x ix ho;split at hv
  ·rename_i i l k n hi hx hn;split at hv
   ·rename_i e he;split at hv
    ·rename_i q hq;cases hv;obtain⟨y,hy,hr,h1⟩:=jm7 (P:=P) (k:=k) hi he (bR s hx).l hq;exact dT.same H (.one h1 hr) (by simp[execOp,ho,hy,(bR s hn).int,Result.andThen])
    ·cases hv
   ·cases hv
  ·cases hv
 ·rename_i t x ix ho;split at hv
  ·rename_i i str k n hi hx hn;split at hv
   ·rename_i hk;split at hv
    ·rename_i h0;split at hv
     ·rename_i b hb;cases hv;obtain⟨I,d,h1,h2,_,_,_,_,h7,_⟩:=fE hi;rw[h7]at hk;have:=xD hk;subst this;refine dT.same H (x:=.int .u8 b.toNat) (.one rfl (.d (.int _ _))) ?_;simp[execOp,ho,(bR s hx).str,(bR s hn).int,Instr.index,asIntOf,run_underlying h2,Result.andThen,h0,hb]
     ·cases hv
    ·cases hv
   ·cases hv
  ·rename_i i ls k n hi hx hn;split at hv
   ·rename_i q hq;cases hv;obtain⟨y,hy,hr⟩:=jn9 (P:=P) (k:=k) hi (bR s hx) hq;exact dT.same H hr (by simp[execOp,ho,hy,(bR s hn).int,Result.andThen])
   ·cases hv
  ·cases hv
 ·rename_i x k ho;split at hv
  ·rename_i vs hx;split at hv
   ·rename_i u hu;cases hv;have hr:=bR s hx;generalize hxx:a.eval x=xx at hr;cases hr with
    |@tup _ cs e1 e2=>
     have hlt:k<cs.size:=by have:=(kp9.1 hu).1;omega
     exact dT.same H (e2 _ _ _ hu (ks6 hlt)) (by simp[execOp,ho,hxx,Instr.extract,ks6 hlt])
   ·cases hv
  ·cases hv
 ·rename_i args argTypes ho;split at hv
  ·rename_i x t hargs hts;split at hv
   ·rename_i i u hi hx;split at hv
    ·rename_i n hn;cases hv;have e1:args=#[x]:=by apply kv9.1;simpa using hargs
     have e2:argTypes=#[t]:=by apply kv9.1;simpa using hts
     subst e1;subst e2;refine dT.same H (x:=.int .i64 n) (.one rfl (.d (.int _ _))) ?_;simp[execOp,ho,resolve,invoke,builtin,jo0 hi (bR s hx) hn,Result.andThen]
    ·cases hv
   ·cases hv
  ·cases hv
 ·rename_i args argTypes ho;split at hv
  ·rename_i x y hargs;split at hv
   ·rename_i k p k' q hx hy;cases hv;have e1:args=#[x,y]:=by apply kv9.1;simpa using hargs
    subst e1;refine dT.same H (x:=.int k (if q>p then q else p)) (.one rfl (.d (.int _ _))) ?_;simp[execOp,ho,resolve,invoke,builtin,(bR s hx).int,(bR s hy).int,Builtin.max_,Builtin.max2]
   ·cases hv
  ·cases hv
 ·rename_i args argTypes ho;split at hv
  ·rename_i x y hargs;split at hv
   ·rename_i k p k' q hx hy;cases hv;have e1:args=#[x,y]:=by apply kv9.1;simpa using hargs
    subst e1;refine dT.same H (x:=.int k (if q<p then q else p)) (.one rfl (.d (.int _ _))) ?_;simp[execOp,ho,resolve,invoke,builtin,(bR s hx).int,(bR s hy).int,Builtin.min_,Builtin.min2]
   ·cases hv
  ·cases hv
 ·cases hv
end Go.Vt
