import Derived.Test.YtdabfkmhkoppcaaGreatDoorVtCall3
import Derived.Laws.MakeOwn
import Derived.Laws.OwnMore
set_option linter.all false
open Array renaming getD_eq_getD_getElem?→kx1
open List renaming getElem?_append→kB3,getElem?_eq_getElem→kr1,getElem?_eq_some_iff→kp9,length_append→kq3
open Nat renaming mul_comm→kD8,mul_le_mul_right→kv6
namespace Go.Vt
set_option linter.unusedSectionVars false
set_option linter.unusedVariables false
variable [cJ]
def oR (h:aB):L→Option (List (List D))
 |.d (.sl ys)=>some ys
 |.nils=>some []
 |.own id ver len=>match h[id]? with
  |some (.ar ty _ _ ver' xs)=>if ver'=ver then some (xs.take len)else none
  |_=>none
 |_=>none
def aV:Nat:=140737488355328
def zok (e:EI):Bool:=match e.zero with
 |some z=>match iG z with
  |some ls=>ls.length == e.size&&e.size != 0
  |none=>false
 |none=>false
def uV (h:aB) (e:EI) (s:L) (ys:List (List D)):Option (L×aB):=
 if mC e.size ys=true∧zok e=true then
  match s with
  |.nils=>if ys.length*e.bytes≤aV∧ys.length≤aV then some (.own h.length 0 ys.length,h++[.arr false e.size 0 ys])else none
  |.own id ver len=>match h[id]? with
   |some (.arr false sz ver' xs)=>
    if ver'=ver∧sz=e.size∧(len+ys.length)*e.bytes≤aV∧len+ys.length≤aV then
     some (.own id (ver+1) (len+ys.length),h.set id (.arr false sz (ver+1) (xs.take len++ys)))else none
   |_=>none
  |_=>none
 else none
def uW (h:aB):L→Option (List L)
 |.bsl id off n=>match h[id]? with
  |some (.bx _ cells)=>if off+n≤cells.length then some ((cells.drop off).take n)else none
  |_=>none
 |_=>none
def pM (h:aB) (e:EI) (s:L) (ys:List L):Option (L×aB):=
 if e.size=1∧ys≠[]∧zok e=true then
  match s with
  |.nils=>if ys.length*e.bytes≤aV∧ys.length≤aV then some (.bsl h.length 0 ys.length,h++[.box ys])else none
  |.bsl id 0 len=>match h[id]? with
   |some (.box cells)=>if len≤cells.length∧(len+ys.length)*e.bytes≤aV∧len+ys.length≤aV then
     some (.bsl h.length 0 (len+ys.length),h.set id .dead++[.box (cells.take len++ys)])else none
   |_=>none
  |_=>none
 else none
def xJ (h:aB) (e:EI) (s x:L):Option (L×aB):=match oR h x with
 |some ys=>uV h e s ys
 |none=>match uW h x with
  |some ys=>pM h e s ys
  |none=>none
def xK (e:EI) (n:Nat):Option (List (List D)):=match e.zero with
 |some z=>match iG z with
  |some ls=>match kQ [] ls with
   |some ds=>if ds.length=e.size then some (List.replicate n ds)else none
   |none=>none
  |none=>none
 |none=>none
def rC:Nat→List (Nat×V)→Option (List L)
 |_,[]=>some []
 |n,(k,v)::r=>if k=n then (match v,rC (n+1) r with
  |.one l,some ls=>some (l::ls)
  |_,_=>none)else none
def vbr (h:aB) (n sz:Nat) (vs:List (Nat×V)):Option (List (List D))→Option (V×aB)
 |some rows=>some (.one (.own h.length 0 n),jD h vs++[.arr false sz 0 rows])
 |none=>if sz=1 then (match rC 0 vs with
  |some ls=>some (.one (.bsl h.length 0 n),h++[.box ls])
  |none=>none)else none
def cT (s:ByteArray):List (List D):=s.data.toList.map fun b=>[.int .u8 b.toNat]
def zd1 (P:Program) (e:TypeId):Bool:=match P.info? e with
 |some i=>i.size == 1&&i.bytes == 1&&(match i.zero with|some (.int .u8 0)=>true|_=>false)
 |none=>false
def uX (P:Program) (h:aB) (t u:TypeId) (ls:L) (s:ByteArray):Option (L×aB):=
 match P.underlying t,P.underlying u with
 |some (.slice e),some .string=>if zd1 P e=true∧0<s.size then
   match ls with
   |.nils=>if s.size≤aV then some (.own h.length 0 s.size,h++[.ar (some e) false 1 0 (cT s)])else none
   |.own id ver len=>match h[id]? with
    |some (.ar (some e') false sz ver' xs)=>if e'=e∧sz=1∧ver'=ver∧len+s.size≤aV then
      some (.own id (ver+1) (len+s.size),h.set id (.ar (some e) false 1 (ver+1) (xs.take len++cT s)))else none
    |_=>none
   |_=>none
  else none
 |_,_=>none
def uY (h:aB):L→Option L
 |.nils=>some (.d .nilp)
 |.own id ver (_+1)=>match h[id]? with
  |some (.ar _ _ _ ver' _)=>if ver'=ver then some (.ept id ver 0 0)else none
  |_=>none
 |_=>none
def uZ (P:Program) (h:aB) (pt:TypeId) (p:L) (n:Int):Option (V×aB):=
 match p,n with
 |.d .nilp,.ofNat 0=>some (.one (.d (.str .empty)),h)
 |.ept id ver 0 0,.ofNat (k+1)=>match h[id]?,P.underlying pt with
  |some (.ar (some e) false 1 ver' xs),some (.pointer e')=>if e'=e∧ver'=ver∧P.cellsOf e=1∧k+1≤xs.length∧k+1≤aV then
    (match mU (xs.take (k+1))with
    |some bs=>some (.one (.d (.str ⟨bs.toArray⟩)),h.set id .dead)
    |none=>none)else none
  |_,_=>none
 |_,_=>none
def mX (P:Program) (f:FuncId):Bool:=match P.funcs[f]? with
 |some fn=>fn.name == "internal/abi.NoEscape" && fn.body.isNone&&fn.origin == ""
 |none=>false
def zT4 (vs:List (Nat×V)):Bool:=vs.any fun p=>match p.2 with
 |.one (.own _ _ _)=>true
 |_=>false
def vrw (h:aB) (sz:Nat) (vs:List (Nat×V)):Option (List (List D)):=if (Nat.beq sz 1&&zT4 vs)=true then none else qX (jD h vs) sz 0 vs
theorem jp1 {h:aB} {sz:Nat} {vs:List (Nat×V)} {rows:List (List D)} (e:vrw h sz vs=some rows):qX (jD h vs) sz 0 vs=some rows:=by
 unfold vrw at e;split at e
 ·cases e
 ·exact e
def dW (P:Program) (T:Sl) (h:aB) (o:Oper):Option (V×aB):=
 match o.op with
 |.buildSlice t n ps=>match ti P t,lI T ps.toList with
  |some i,some vs=>match i.el with
   |some e=>if vs.length=n∧n*e.size≤16777216∧e.zero.isSome=true∧(vs.all fun p=>jR p.2)=true then
     (match vrw h e.size vs with
     |some rows=>some (.one (.own h.length 0 n),jD h vs++[.arr false e.size 0 rows])
     |none=>if e.size=1 then (match rC 0 vs with
      |some ls=>some (.one (.bsl h.length 0 n),h++[.box ls])
      |none=>none)else none)else none
   |none=>none
  |_,_=>none
 |.makeSlice t l c=>match ti P t,opd T l,opd T c with
  |some i,some (.one (.d (.int _ n))),some (.one (.d (.int _ m)))=>match i.el with
   |some e=>if 0≤n∧m=n∧(e.bytes:Int)*n≤281474976710656∧n≤281474976710656 then (match xK e n.toNat with
    |some rows=>some (.one (.own h.length 0 n.toNat),h++[.arr false e.size 0 rows])
    |none=>none)else none
   |none=>none
  |_,_,_=>none
 |.call { callee:=.builtin .append,args,argTypes }=>match args.toList,argTypes.toList with
  |[s,x],[t,t']=>if t=t' then (match ti P t,opd T s,opd T x with
   |some i,some (.one ls),some (.one lx)=>match i.el with
    |some e=>match xJ h e ls lx with
     |some (l,h')=>some (.one l,h')
     |none=>none
    |none=>none
   |_,_,_=>none)else (match opd T s,opd T x with
   |some (.one ls),some (.one (.d (.str b)))=>match uX P h t t' ls b with
    |some (l,h')=>some (.one l,h')
    |none=>none
   |_,_=>none)
  |_,_=>none
 |.call { callee:=.builtin .unsafeSliceData,args,.. }=>match args.toList with
  |[x]=>match opd T x with
   |some (.one l)=>match uY h l with
    |some l'=>some (.one l',h)
    |none=>none
   |_=>none
  |_=>none
 |.call { callee:=.builtin .unsafeString,args,argTypes }=>match args.toList,argTypes.toList with
  |[p,n],[pt,_]=>match opd T p,opd T n with
   |some (.one l),some (.one (.d (.int .i64 k)))=>uZ P h pt l k
   |_,_=>none
  |_,_=>none
 |.call { callee:=.value (.func f),args,.. }=>if mX P f=true then (match args.toList with
  |[x]=>match opd T x with
   |some v=>some (v,h)
   |none=>none
  |_=>none)else none
 |.call { callee:=.builtin .copy,args,argTypes }=>match args.toList,argTypes.toList with
  |[d,x],[t,t']=>if t=t' then (match ti P t,opd T d,opd T x with
   |some i,some (.one (.own id ver len)),some (.one lx)=>match i.el,h[id]?,oR h lx with
    |some e,some (.arr false sz ver' xs),some ys=>
     if ver'=ver∧sz=e.size∧mC e.size ys=true∧e.size≠0 then some (.one (.d (.int .i64 ((min ys.length len:Nat):Int))),h.set id (.arr false sz ver (ys.take (min ys.length len)++xs.drop (min ys.length len))))else none
    |_,_,_=>none
   |_,_,_=>none)else none
  |_,_=>none
 |_=>none
variable {P:Program} {w:World} {μ:Pl} {h:aB} {T:Sl} {a:Act}
structure mY (w:World) (M:Nat→Prop) (sz:Nat) (rows:List (List D)) (cs:List Value):Prop where
 len:cs.length=rows.length*sz
 one:∀v∈cs,v.oneCell'=true
 wide:∀(i:Nat) (e:List D),rows[i]?=some e→e.length=sz
 cell:∀(i j:Nat) (e:List D) (x:D),rows[i]?=some e→e[j]?=some x→∃v,cs[i*sz+j]?=some v∧cM w M x v
theorem mY.append {M:Nat→Prop} {sz:Nat} {r1 r2:List (List D)} {c1 c2:List Value} (a:mY w M sz r1 c1) (b:mY w M sz r2 c2):mY w M sz (r1++r2) (c1++c2) where
 len:=by rw[kq3,kq3,a.len,b.len,Nat.add_mul]
 one v hv:=by rcases List.mem_append.1 hv with hv|hv;exact a.one v hv;exact b.one v hv
 wide i e hi:=by
  rw[kB3]at hi;split at hi
  ·exact a.wide i e hi
  ·exact b.wide _ e hi
 cell i j e x hi hj:=by
  rw[kB3]at hi;split at hi
  ·rename_i hlt;obtain⟨v,h1,h2⟩:=a.cell i j e x hi hj;refine⟨v,?_,h2⟩;rw[List.getElem?_append_left (kp9.1 h1).1];exact h1
  ·rename_i hge;obtain⟨v,h1,h2⟩:=b.cell _ j e x hi hj;refine⟨v,?_,h2⟩;have hle:r1.length*sz≤i*sz:=kv6 _ (by omega);rw[List.getElem?_append_right (by rw[a.len];omega),a.len,←h1]
   congr 1
   rw[Nat.sub_mul];omega
theorem zT5 (H:aR w μ h) {l:L} {ys:List (List D)} {v:Value} (hl:aY w μ h l v) (hr:oR h l=some ys) {sz:Nat} (hal:mC sz ys=true) :
  ∃A c news,v = .slice A ys.length c∧mY w (Mut μ h) sz ys news∧(A=none→ys=[])∧∀ad,A=some ad→∀(j:Nat) (u:Value),news[j]?=some u→w.cell? (ad.add j)=some u:=by
 have main:∀(b off cap:Nat) (f:Nat→Nat→Value),(∀(i j:Nat) (e:List D) (x:D),ys[i]?=some e→e[j]?=some x→w.cell? ⟨b,off+(i*sz+j),none⟩=some (f i j)∧cM w (Mut μ h) x (f i j))→
   ∃news,mY w (Mut μ h) sz ys news∧∀(j:Nat) (u:Value),news[j]?=some u→w.cell? ((⟨b,off,none⟩:Addr).add j)=some u:=by
  intro b off cap f hf;have hw:∀(i:Nat) (e:List D),ys[i]?=some e→e.length=sz:=fun i e hi=>zc4 hal hi;have hcell:∀k,k<ys.length*sz→∃u,w.cell? ⟨b,off+k,none⟩=some u∧u.oneCell'=true∧∀e x,ys[k / sz]?=some e→e[k % sz]?=some x→cM w (Mut μ h) x u:=by
   intro k hk;have hsz:0<sz:=by rcases Nat.eq_zero_or_pos sz with e|e;subst e;simp at hk;exact e
   have hi:k / sz<ys.length:=Nat.div_lt_of_lt_mul (by rw[kD8];exact hk);have hj:k % sz<sz:=Nat.mod_lt _ hsz;have he:=kr1 hi;have hel:=hw _ _ he;have hx:(ys[k / sz])[k % sz]?=some (ys[k / sz])[k % sz]:=kr1 (by omega);obtain⟨c1,c2⟩:=hf _ _ _ _ he hx;have hdm:k / sz*sz+k % sz=k:=by rw[kD8];exact Nat.div_add_mod k sz
   rw[hdm]at c1;refine⟨_,c1,c2.oneCell,fun e x h1 h2=>?_⟩;rw[he]at h1;cases h1;rw[hx]at h2;cases h2;exact c2
  let g:Nat→Value:=fun k=>(w.cell? ⟨b,off+k,none⟩).getD undef
  have hg:∀k,k<ys.length*sz→w.cell? ⟨b,off+k,none⟩=some (g k)∧(g k).oneCell'=true∧∀e x,ys[k / sz]?=some e→e[k % sz]?=some x→cM w (Mut μ h) x (g k):=by
   intro k hk;obtain⟨u,h1,h2,h3⟩:=hcell k hk;have:g k=u:=by simp[g,h1]
   rw[this];exact⟨h1,h2,h3⟩
  refine⟨(List.range (ys.length*sz)).map g,⟨by simp,?_,hw,?_⟩,?_⟩
  ·intro v hv;simp at hv;obtain⟨k,hk,rfl⟩:=hv;exact(hg k hk).2.1
  ·intro i j e x hi hj;have hsz:=hw i e hi;have hjl:=(kp9.1 hj).1;have hil:=(kp9.1 hi).1;have hk:i*sz+j<ys.length*sz:=by
    have:i*sz+sz≤ys.length*sz:=by rw[←Nat.succ_mul];exact kv6 _ hil
    omega
   refine⟨g (i*sz+j),by simp[hk],?_⟩;have hsz0:0<sz:=by omega
   refine(hg _ hk).2.2 e x ?_ ?_
   ·rw[kD8,Nat.mul_add_div hsz0,Nat.div_eq_of_lt (by omega)];simpa using hi
   ·rw[kD8,Nat.mul_add_mod,Nat.mod_eq_of_lt (by omega)];exact hj
  ·intro j u hu;rw[gW];have hj:j<ys.length*sz:=by have:=(kp9.1 hu).1;simpa using this
   simp[hj]at hu;rw[←hu];exact(hg j hj).1
 unfold oR at hr;split at hr
 ·cases hr;cases hl with|d hd=>cases hd with
  |sl0 A cap=>exact⟨A,cap,[],rfl,⟨by simp,by simp,by simp,by simp⟩,fun _=>rfl,fun ad _ j u hu=>by simp at hu⟩
  |sl sz' _ b off cap vs hne hb hlt hcap hlen hc hd'=>
   have hsz:∀(i:Nat) (e:List D),ys[i]?=some e→sz'=sz:=fun i e hi=>by rw[←hlen i e hi,zc4 hal hi]
   obtain⟨news,h1,h2⟩:=main b off cap vs (fun i j e x hi hj=>⟨by rw[←hsz i e hi];exact hc i j e x hi hj,hd' i j e x hi hj⟩);exact⟨_,cap,news,rfl,h1,(fun e=>by cases e),(fun ad e=>by cases e;exact h2)⟩
 ·cases hr;cases hl;exact⟨none,0,[],rfl,⟨by simp,by simp,by simp,by simp⟩,fun _=>rfl,fun ad e=>by cases e⟩
 ·rename_i id ver len;split at hr
  ·rename_i fz sz' ver' xs hid;split at hr
   ·rename_i e;subst e;cases hr;cases hl with
    |@own _ _ _ _ _ _ _ _ b0 cap0 cs0 T0 hid' hlen hμ hcap hb hcs=>
     rw[hid]at hid';cases hid';rcases H.arr _ _ _ _ _ hid with⟨hn',_⟩|⟨b,cs,T,h1,h2,h3,h4,h5,h6⟩
     ·rw[hμ]at hn';cases hn'
     ·rw[hμ]at h1;cases h1;have hlen':(xs.take len).length=len:=by simp;omega
      have hget:∀{i:Nat} {e:List D},(xs.take len)[i]?=some e→xs[i]?=some e:=by
       intro i e hi;have:i<len:=by have:=(kp9.1 hi).1;omega
       rwa [List.getElem?_take_of_lt this]at hi
      obtain⟨news,n1,n2⟩:=main b0 0 cap0 (fun i j=>cs.getD (i*sz+j) undef) (fun i j e x hi hj=>by
       have hsz:sz'=sz:=by rw[←h5 i e (hget hi),zc4 hal hi]
       subst hsz;obtain⟨u,hu,hd⟩:=h6 i j e x (hget hi) hj;refine⟨?_,?_⟩
       ·rw[Nat.zero_add,pI h2,hu];simp[kx1,hu]
       ·simpa[kx1,hu]using hd)
      rw[hlen'];exact⟨_,cap0,news,rfl,n1,(fun e=>by cases e),(fun ad e=>by cases e;exact n2)⟩
    |ownNil hid' hμ=>exact⟨none,0,[],by simp,⟨by simp,by simp,by simp,by simp⟩,fun _=>by simp,fun ad e=>by cases e⟩
    |ownOld hid' hv=>rw[hid]at hid';cases hid';omega
    |ownDead hid'=>rw[hid]at hid';cases hid'
   ·cases hr
  ·cases hr
 ·cases hr
end Go.Vt
