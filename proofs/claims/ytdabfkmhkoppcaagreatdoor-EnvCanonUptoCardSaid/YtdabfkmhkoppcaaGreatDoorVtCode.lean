import Derived.Test.YtdabfkmhkoppcaaGreatDoorVtFin
import Derived.Test.YtdabfkmhkoppcaaGreatDoorVtOrd5
set_option linter.all false
open Bool renaming and_eq_true→ks2
open List renaming any_eq_true→kE5,getD→kH2,getElem?_eq_getElem→kr1,getElem?_eq_some_iff→kp9,lookup_cons→kx3,mem_cons_of_mem→kw6,mem_cons→kt6,range→kt4
namespace Go.Vt
set_option linter.unusedSectionVars false
set_option linter.unusedVariables false
variable [cJ]
structure VOp where
 dst:Option Tmp
 op:Op
 g:Option (Option Tmp×Bool)
inductive VBT where
 |leaf
 |ro (i:Nat) (o:VOp) (t:VBT)
 |alt (j:Nat) (o:VOp) (t r:VBT)
 |no
inductive aC where
 |skip
 |ops (l:List VOp)
 |opsW (l:List (Nat×VOp)) (ob:List (Nat×List Nat))
 |both (x y:aC)
 |opsB (t:VBT) (ob:List (Nat×List Nat))
 |opsK (t:VBT) (ob:List (Nat×List Nat))
 |seq (a b:aC)
 |cond (c:Operand) (x y:aC)
 |block (id:Nat) (c:aC)
 |loop (c:aC)
 |exit (id:Nat)
 |ret
 |bad
 |rangeF (g:Operand) (ps:List Tmp) (x y:aC)
abbrev cO:=List (Nat×List (List Nat×List (Nat×List Nat)))
def cop (ops:List Oper) (o:Oper):VOp:={ dst:=o.dst,op:=o.op,g:=match o.guard with|none=>none|some (g,w)=>some ((ops[g]?).bind (·.dst),w) }
def cbt (ops:List Oper):BT→VBT
 |.leaf=>.leaf
 |.ro i t=>.ro i (cop ops (ops.getD i default)) (cbt ops t)
 |.alt j t r=>.alt j (cop ops (ops.getD j default)) (cbt ops t) (cbt ops r)
 |.no=>.no
def isK:List (List Nat×List (Nat×List Nat))→Bool
 |([],_)::_=>true
 |_=>false
def aN (sg:cO):Code→aC
 |.skip=>.skip
 |.region id ops _=>match sg.lookup id with
  |none=>.ops (ops.toList.map (cop ops.toList))
  |some l=>if isK l then (match l.tail with
   |(σ,ob)::r=>.opsK (cbt ops.toList (tB ops.toList 1000 (((σ,ob)::r).map (·.1)))) ob
   |[]=>.bad)else match l with
  |[(σ,[])]=>.ops (σ.map fun i=>cop ops.toList (ops.toList.getD i default))
  |[(σ,ob)]=>.opsW (σ.map fun i=>(i,cop ops.toList (ops.toList.getD i default))) ob
  |[(σ,ob),(σ',ob')]=>.both (.opsW (σ.map fun i=>(i,cop ops.toList (ops.toList.getD i default))) ob) (.opsW (σ'.map fun i=>(i,cop ops.toList (ops.toList.getD i default))) ob')
  |((σ,ob)::y::z::r)=>.opsB (cbt ops.toList (tB ops.toList 1000 (((σ,ob)::y::z::r).map (·.1)))) ob
  |_=>.bad
 |.seq a b=>.seq (aN sg a) (aN sg b)
 |.cond c x y=>.cond c (aN sg x) (aN sg y)
 |.block id c=>.block id (aN sg c)
 |.loop c=>.loop (aN sg c)
 |.rangeFunc g ps a b=>.rangeF g ps.toList (aN sg a) (aN sg b)
 |.exit id=>.exit id
 |.ret=>.ret
 |_=>.bad
def iB (ob:List (Nat×List Nat)) (i:Nat):List Nat:=(ob.lookup i).getD []
def eG (P:Program) (N:Nat) (sg:cO):Code→Bool
 |.region id ops draw=>dOk N ops.toList&&(match sg.lookup id with
  |none=>!draw||xM P ops.toList (fun _=>[]) (kt4 ops.toList.length)
  |some l=>if isK l then (match l.tail with
   |(σ,ob)::r=>draw&&vF P ops.toList (iB ob) (tB ops.toList 1000 (((σ,ob)::r).map (·.1)))
   |[]=>false)else match l with
  |[(σ,ob)]=>draw&&xM P ops.toList (iB ob) σ
  |[(σ,ob),(σ',ob')]=>draw&&zd9 P ops.toList (iB ob) σ (iB ob') σ'
  |((σ,ob)::y::z::r)=>draw&&vF P ops.toList (iB ob) (tB ops.toList 1000 (((σ,ob)::y::z::r).map (·.1)))
  |_=>false)
 |.seq a b=>eG P N sg a&&eG P N sg b
 |.cond _ x y=>eG P N sg x&&eG P N sg y
 |.block _ c=>eG P N sg c
 |.loop c=>eG P N sg c
 |.rangeFunc _ _ _ _=>false
 |_=>true
inductive VX where
 |normal
 |exit (id:Nat)
 |ret
def VX.toExit:VX→Exit
 |.normal=>.normal
 |.exit id=>.exit id
 |.ret=>.ret
def lO (P:Program) (T:Sl) (h:aB) (op:Op) (K:V→aB→Prop):Prop:=eW P T h { dst:=none,op,type:=0,pos:="",after:=#[],guard:=none } K
def iJ (P:Program) (o:VOp) (T:Sl) (h:aB) (K:Sl→aB→Prop):Prop:=match o.g with
 |none=>lO P T h o.op fun v h'=>K (bI T o.dst v) h'
 |some (some d,want)=>match rF (T.lookup d)with
  |some b=>(b=some want→lO P T h o.op fun v h'=>K (bI T o.dst v) h')∧(b≠some want→K (bI T o.dst sV) h)
  |none=>False
 |some (none,_)=>False
def nX (P:Program):List VOp→Sl→aB→(Sl→aB→Prop)→Prop
 |[],T,h,K=>K T h
 |o::R,T,h,K=>iJ P o T h fun T' h'=>nX P R T' h' K
def mZ (P:Program) (is:List Nat) (h:aB):List (Nat×VOp×Sl×Sl)→Prop
 |[]=>True
 |(i,o,T,T')::W=>(i∈is→iJ P o T h fun T2 _=>T2=T')∧mZ P is h W
def nA (P:Program) (ob:List (Nat×List Nat)):List (Nat×VOp)→List (Nat×VOp×Sl×Sl)→Sl→aB→(Sl→aB→Prop)→Prop
 |[],_,T,h,K=>K T h
 |(i,o)::R,W,T,h,K=>if ro o.op=true then iJ P o T h fun T' h'=>nA P ob R (if ob.any (fun x=>x.2.contains i)then (i,o,T,T')::W else W) T' h' K
  else iJ P o T h fun T' h'=>mZ P (iB ob i) h' W∧nA P ob R W T' h' K
def jO (P:Program) (ob:List (Nat×List Nat)):VBT→List (Nat×VOp×Sl×Sl)→Sl→aB→(Sl→aB→Prop)→Prop
 |.leaf,_,T,h,K=>K T h
 |.no,_,_,_,_=>True
 |.ro i o t,W,T,h,K=>iJ P o T h fun T' h'=>jO P ob t (if ob.any (fun x=>x.2.contains i)then (i,o,T,T')::W else W) T' h' K
 |.alt j o t r,W,T,h,K=>(iJ P o T h fun T' h'=>mZ P (iB ob j) h' W∧jO P ob t W T' h' K)∧jO P ob r W T h K
def vG (next:Sl→aB→Prop) (K:VX→Sl→aB→Prop):VX→Sl→aB→Prop
 |.normal=>next
 |e=>K e
def zV9 (id:Nat) (K:VX→Sl→aB→Prop):VX→Sl→aB→Prop
 |.exit id'=>fun T h=>if id'=id then K .normal T h else K (.exit id') T h
 |e=>K e
def Sub (h:aB) (ids:List Nat):Sl→Sl→Prop
 |[],_=>True
 |(i,v0)::r,T=>(match T.lookup i with|some v=>∃v1,WkV v v1∧cF h ids v1=some v0|none=>False)∧Sub h ids r T
def tC (T:Sl) (h:aB):List (Nat×Nat)→Option (Sl×aB)
 |[]=>some (T,h)
 |(i,sz)::r=>match T.lookup i with
  |some (.one .nils)=>tC ((i,.one (.own h.length 0 0))::T) (h++[.arr false sz 0 []]) r
  |_=>none
theorem zW0 {w:World} {a:Act}:∀{gs:List (Nat×Nat)} {T T':Sl} {h h':aB} {μ:Pl},aR w μ h→dP w μ h T a→tC T h gs=some (T',h')→∃μ',aR w μ' h'∧dP w μ' h' T' a∧Good w μ h w μ' h'
 |[],_,_,_,_,μ,H,S,e=>by cases e;exact⟨μ,H,S,kn9 _ _ _⟩
 |(i,sz)::r,T,T',h,h',μ,H,S,e=>by
  unfold tC at e;split at e
  ·rename_i hl;have H1:=H.pushNone sz;have g1:=ko9 w μ h sz;have S1:dP w (μ.put h.length none) (h++[aI.arr false sz 0 []]) ((i,.one (.own h.length 0 0))::T) a:=by
    intro j v hj;rw[kx3]at hj;split at hj
    ·rename_i ej;cases hj;have:j=i:=by simpa using ej
     subst this;have hx:=S _ _ hl;generalize a.tmps.getD j undef=x at hx ⊢;cases hx with
     |one ho hn=>cases hn;exact .one ho (.ownNil (ty:=none) (fz:=false) (sz:=sz) (xs:=[]) (by simp) (ko3 _ _ _))
    ·exact(S _ _ hj).good g1
   obtain⟨μ2,H2,S2,g2⟩:=zW0 H1 S1 e;exact⟨μ2,H2,S2,g1.trans g2⟩
  ·cases e
def fG (n:Nat) (T:Sl) (h:aB) (T0:Sl) (h0:aB):Prop:=
 ∃(gs:List (Nat×Nat)) (bs:List (Nat×Nat×Nat)) (T1:Sl) (hs hh h1:aB) (ids:List Nat),tC T h gs=some (T1,hs)∧eP hs bs=some hh∧WkH hh h1∧bO ids=true∧ids.take n=kt4 n∧bA h1 (idx ids) ids=some h0∧Sub h1 ids T0 T1
def iX (c:Option V) (x y:Prop):Prop:=match c with
 |some (.one (.d (.bool t)))=>(t=true→x)∧(t=false→y)
 |_=>False
abbrev kX:=List V→aB→(Option VX→aB→Prop)→Prop
inductive YOp where
 |mv (d:Tmp)
 |yl (args:List Operand)
 |no
def iK (x:Nat):List Nat→Bool
 |[]=>false
 |y::r=>Nat.beq x y||iK x r
def yop (o:VOp) (ys:List Tmp):YOp:=match o.g with
 |some _=>.no
 |none=>match o.op,o.dst with
  |.move (.tmp i),some d=>if iK i ys then .mv d else .no
  |.call c,_=>match c.callee with
   |.value (.tmp i)=>if iK i ys then .yl c.args.toList else .no
   |_=>.no
  |_,_=>.no
def jF (d:Option Tmp):List Tmp→List Tmp
 |[]=>[]
 |y::r=>match d with
  |none=>y::r
  |some d=>if Nat.beq y d then jF (some d) r else y::jF (some d) r
abbrev KO:=Sl→List Tmp→aB→Option VX→Prop
abbrev KY:=VX→KO
def lP (P:Program) (Y:kX) (o:VOp) (T:Sl) (ys:List Tmp) (h:aB) (pd:Option VX) (K:KO):Prop:=
 match yop o ys with
 |.mv d=>K ((d,.one .any)::T) (d::ys) h pd
 |.yl args=>pd=none∧∃vs,eO T args=some vs∧Y vs h fun pd' h'=>K (bI T o.dst (.one (.d (.bool pd'.isNone)))) (jF o.dst ys) h' pd'
 |.no=>iJ P o T h fun T' h'=>K T' (jF o.dst ys) h' pd
def eH (P:Program) (Y:kX):List VOp→Sl→List Tmp→aB→Option VX→KO→Prop
 |[],T,ys,h,pd,K=>K T ys h pd
 |o::R,T,ys,h,pd,K=>lP P Y o T ys h pd fun T' ys' h' pd'=>eH P Y R T' ys' h' pd' K
def fI (A:KO) (K:KY):KY
 |.normal=>A
 |.exit id=>K (.exit id)
 |.ret=>K .ret
def xS (id:Nat) (K:KY):KY
 |.normal=>K .normal
 |.exit id'=>if id'=id then K .normal else K (.exit id')
 |.ret=>K .ret
def dY (P:Program) (n:Nat) (Y:kX):aC→KY→KO
 |.skip,K,T,ys,h,pd=>K .normal T ys h pd
 |.ops l,K,T,ys,h,pd=>eH P Y l T ys h pd (K .normal)
 |.seq a b,K,T,ys,h,pd=>dY P n Y a (fI (dY P n Y b K) K) T ys h pd
 |.cond c x y,K,T,ys,h,pd=>iX (opd T c) (dY P n Y x K T ys h pd) (dY P n Y y K T ys h pd)
 |.block id c,K,T,ys,h,pd=>dY P n Y c (xS id K) T ys h pd
 |.loop c,K,T,ys,h,pd=>∃I:Nat→KO,(∃k T0 h0,fG n T h T0 h0∧I k T0 ys h0 pd)∧
   ∀k T ys h pd,I k T ys h pd→dY P n Y c (fI (fun T' ys' h' pd'=>∃m T0 h0,m<k∧fG n T' h' T0 h0∧I m T0 ys' h0 pd') K) T ys h pd
 |.exit id,K,T,ys,h,pd=>K (.exit id) T ys h pd
 |.ret,K,T,ys,h,pd=>K .ret T ys h pd
 |_,_,_,_,_,_=>False
def VX.code:VX→Option Code
 |.normal=>none
 |.exit id=>some (.exit id)
 |.ret=>some .ret
def nB (N:Nat):Code→Bool
 |.skip=>true
 |.region _ ops draw=>dOk N ops.toList&&!draw
 |.seq a b=>nB N a&&nB N b
 |.cond _ x y=>nB N x&&nB N y
 |.block _ c=>nB N c
 |.loop c=>nB N c
 |.exit _=>true
 |.ret=>true
 |_=>false
def xT (P:Program) (f:FuncId) (N:Nat) (it:aC):Prop:=∃fn c,P.funcs[f]?=some fn∧fn.body=some c∧jM P f=true∧fn.ntmps=N∧nB N c=true∧aN [] c=it∧fn.results=#[]
def mG:List Tmp→List V→Sl→Sl
 |p::ps,v::vs,T=>mG ps vs ((p,v)::T)
 |_,_,T=>T
def zW1 (K:Option VX→aB→Prop):VX→Sl→aB→Prop
 |.normal,_,h=>K none h
 |e,_,h=>K (some e) h
def xU (K:VX→Sl→aB→Prop) (T:Sl):KY
 |.exit _,_,_,_,_=>False
 |_,_,_,h,none=>K .normal T h
 |_,_,_,h,some e=>K e T h
def vH:Nat→List L→Sl
 |_,[]=>[]
 |k,l::r=>(k,.one l)::vH (k+1) r
def vwp (P:Program) (n:Nat):aC→(VX→Sl→aB→Prop)→Sl→aB→Prop
 |.skip,K,T,h=>K .normal T h
 |.ops l,K,T,h=>nX P l T h (K .normal)
 |.opsW l ob,K,T,h=>nA P ob l [] T h (K .normal)
 |.both x y,K,T,h=>vwp P n x K T h∧vwp P n y K T h
 |.opsB t ob,K,T,h=>jO P ob t [] T h (K .normal)
 |.opsK t ob,K,T,h=>jO P ob t [] T h (fun T' h'=>∃T0 h0,fG n T' h' T0 h0∧K .normal T0 h0)
 |.seq a b,K,T,h=>vwp P n a (vG (vwp P n b K) K) T h
 |.cond c x y,K,T,h=>iX (opd T c) (vwp P n x K T h) (vwp P n y K T h)
 |.block id c,K,T,h=>vwp P n c (zV9 id K) T h
 |.loop c,K,T,h=>∃I:Nat→Sl→aB→Prop,(∃k T0 h0,fG n T h T0 h0∧I k T0 h0)∧∀k T h,I k T h→vwp P n c (vG (fun T' h'=>∃m T0 h0,m<k∧fG n T' h' T0 h0∧I m T0 h0) K) T h
 |.exit id,K,T,h=>K (.exit id) T h
 |.ret,K,T,h=>K .ret T h
 |.bad,_,_,_=>False
 |.rangeF g ps x y,K,T,h=>∃f caps N it,opd T g=some (.one (.fn f caps))∧caps.all (dX h)=true∧xT P f N it∧caps.length<N∧
   dY P h.length (fun vs h1 K'=>vs.length=ps.length∧vwp P h1.length x (vG (fun T' h'=>vwp P h'.length y (zW1 K') T' h') (fun _ _ _=>False)) (mG ps vs T) h1)
    it (xU K T) ((0,.one .any)::vH 1 caps) [0] h none
variable {P:Program} {w0:World} {μ0:Pl} {h0:aB} {N:Nat} {df:List Deferred}
theorem oV {ops:List Oper} {T:Sl} {h:aB} {o:Oper} {K:Sl→aB→Prop} (hv:iJ P (cop ops o) T h K):vgo P ops o T h K:=by
 unfold iJ cop at hv;unfold vgo;cases hg:o.guard with
 |none=>simp only[hg]at hv;exact hv
 |some gw=>
  obtain⟨g,want⟩:=gw;simp only[hg]at hv ⊢;unfold lM;cases ho:ops[g]? with
  |none=>simp[ho]at hv
  |some og=>
   simp only[ho,Option.bind_some]at hv ⊢;cases hd:og.dst with
   |none=>simp[hd]at hv
   |some d=>
    simp only[hd]at hv ⊢;split at hv
    ·rename_i b hb;simp only[hb];exact hv
    ·exact hv.elim
theorem vI {o:VOp} {T:Sl} {h:aB} {K K':Sl→aB→Prop} (hv:iJ P o T h K) (hk:∀T h,K T h→K' T h):iJ P o T h K':=by
 unfold iJ at *;split at hv
 ·exact vB hv fun _ _=>hk _ _
 ·split at hv
  ·exact⟨fun e=>vB (hv.1 e) fun _ _=>hk _ _,fun e=>hk _ _ (hv.2 e)⟩
  ·exact hv
 ·exact hv
theorem zr1 {ops:List Oper}:∀{R:List Oper} {T:Sl} {h:aB} {K:Sl→aB→Prop},nX P (R.map (cop ops)) T h K→zd8 P ops R T h K
 |[],_,_,_,hv=>hv
 |_::_,_,_,_,hv=>oT (oV hv) fun _ _ hv=>zr1 hv
theorem ze2 {ops:List Oper}:∀{σ:List Nat} {W:iI} {T:Sl} {h:aB} {K:Sl→aB→Prop},(∀i∈σ,i<ops.length)→nX P (σ.map fun i=>cop ops (ops.getD i default)) T h K→dQ P ops (fun _=>[]) σ W T h K
 |[],_,_,_,_,_,hv=>hv
 |i::σ,_,_,_,_,hl,hv=>by
  have hi:=hl i (by simp);rw[dQ];have e:ops.getD i default=ops[i]:=by simp[kH2,hi]
  have hv':iJ P (cop ops (ops.getD i default)) _ _ _:=hv;rw[e]at hv';simp only[kr1 hi];split
  ·exact oT (oV hv') fun _ _ hv=>ze2 (fun i hi=>hl i (by simp[hi])) hv
  ·exact oT (oV hv') fun _ _ hv=>⟨by simp,ze2 (fun i hi=>hl i (by simp[hi])) hv⟩
def zW2 (P:Program) (ops:List Oper) (ob:List (Nat×List Nat)) (W:iI) (W':List (Nat×VOp×Sl×Sl)):Prop:=
 ∀x∈W,(∀i,x.1∉iB ob i)∨∃o T T',(x.1,cop ops o,T,T')∈W'∧∀h,(vgo P ops o T h fun T2 _=>T2=T')→x.2 h
theorem zr2 {is:List Nat} {h:aB}:∀{W:List (Nat×VOp×Sl×Sl)},mZ P is h W→∀i o T T',(i,o,T,T')∈W→i∈is→iJ P o T h fun T2 _=>T2=T'
 |[],_,_,_,_,_,hm,_=>by cases hm
 |(i,o,T,T')::W,ha,j,p,U,U',hm,hi=>by
  simp only[kt6,Prod.mk.injEq]at hm;rcases hm with⟨rfl,rfl,rfl,rfl⟩|hm
  ·exact ha.1 hi
  ·exact zr2 ha.2 j p U U' hm hi
theorem zr3 {α:Type} {j:Nat} {l:α}:∀{ob:List (Nat×α)},ob.lookup j=some l→(j,l)∈ob
 |[],h=>by cases h
 |(a,b)::r,h=>by
  rw[kx3]at h;split at h
  ·rename_i hja;cases h;have:j=a:=by simpa using hja
   subst this;simp
  ·exact kw6 _ (zr3 h)
theorem xV {ops:List Oper} {ob:List (Nat×List Nat)}:∀{σ:List Nat} {W:iI} {W':List (Nat×VOp×Sl×Sl)} {T:Sl} {h:aB} {K:Sl→aB→Prop},(∀i∈σ,i<ops.length)→zW2 P ops ob W W'→
  nA P ob (σ.map fun i=>(i,cop ops (ops.getD i default))) W' T h K→dQ P ops (iB ob) σ W T h K
 |[],_,_,_,_,_,_,_,hv=>hv
 |i::σ,W,W',T,h,K,hl,hW,hv=>by
  have hi:=hl i (by simp);have e:ops.getD i default=ops[i]:=by simp[kH2,hi]
  rw[dQ];simp only[List.map_cons,e]at hv;rw[nA]at hv;simp only[kr1 hi];have hl':∀j∈σ,j<ops.length:=fun i hi=>hl i (by simp[hi]);split
  ·rename_i hr;rw[if_pos (show ro (cop ops ops[i]).op=true from hr)]at hv;refine oT (oV hv) fun T' h' hv=>xV hl' ?_ hv;intro x hx;rcases kt6.1 hx with rfl|hx
   ·by_cases hany:(ob.any fun x=>x.2.contains i)=true
    ·refine .inr ⟨ops[i],T,T',?_,fun h hv=>hv⟩;rw[if_pos hany];simp
    ·refine .inl fun j hj=>hany ?_;unfold iB at hj;cases hlk:ob.lookup j with
     |none=>rw[hlk]at hj;cases hj
     |some l=>
      rw[hlk]at hj;have:=zr3 hlk;exact kE5.2 ⟨_,this,by simpa using hj⟩
   ·rcases hW x hx with hn|⟨o,T1,T2,hm,hp⟩
    ·exact .inl hn
    ·refine .inr ⟨o,T1,T2,?_,hp⟩;split
     ·exact kw6 _ hm
     ·exact hm
  ·rename_i hr;rw[if_neg (show ¬ro (cop ops ops[i]).op=true from hr)]at hv;refine oT (oV hv) fun T' h' hv=>⟨fun x hx hm=>?_,xV hl' hW hv.2⟩;rcases hW x hx with hn|⟨o,T1,T2,hm',hp⟩
   ·exact absurd hm (hn i)
   ·exact hp _ (oV (zr2 hv.1 _ _ _ _ hm' hm))
theorem xW {ops:List Oper} {ob:List (Nat×List Nat)} {m:List Nat}:∀{t:BT} {top:Bool} {U:List Nat} {W:iI} {W':List (Nat×VOp×Sl×Sl)} {T:Sl} {h:aB} {K:Sl→aB→Prop},okB P ops (iB ob) m top U t=true→zW2 P ops ob W W'→
  jO P ob (cbt ops t) W' T h K→iW P ops (iB ob) t W T h K
 |.leaf,_,_,_,_,_,_,_,_,_,hv=>hv
 |.no,_,_,_,_,_,_,_,_,_,_=>trivial
 |.ro i t,top,U,W,W',T,h,K,hok,hW,hv=>by
  simp only[okB,ks2]at hok;obtain⟨⟨⟨⟨h1,h2⟩,h3⟩,h4⟩,h5⟩:=hok;have hi:i<ops.length:=by
   unfold ze1 at h3;cases hx:ops[i]? with
   |none=>rw[hx]at h3;cases h3
   |some x=>exact(kp9.1 hx).1
  have e:ops.getD i default=ops[i]:=by simp[kH2,hi]
  rw[iW];simp only[cbt,e]at hv;rw[jO]at hv;simp only[kr1 hi];refine oT (oV hv) fun T' h' hv=>xW h5 ?_ hv;intro x hx;rcases kt6.1 hx with rfl|hx
  ·by_cases hany:(ob.any fun x=>x.2.contains i)=true
   ·refine .inr ⟨ops[i],T,T',?_,fun h hv=>hv⟩;rw[if_pos hany];simp
   ·refine .inl fun j hj=>hany ?_;unfold iB at hj;cases hlk:ob.lookup j with
    |none=>rw[hlk]at hj;cases hj
    |some l=>
     rw[hlk]at hj;have:=zr3 hlk;exact kE5.2 ⟨_,this,by simpa using hj⟩
  ·rcases hW x hx with hn|⟨o,T1,T2,hm,hp⟩
   ·exact .inl hn
   ·refine .inr ⟨o,T1,T2,?_,hp⟩;split
    ·exact kw6 _ hm
    ·exact hm
 |.alt j t r,top,U,W,W',T,h,K,hok,hW,hv=>by
  simp only[okB,ks2]at hok;obtain⟨⟨⟨⟨h1,h2⟩,h3⟩,h4⟩,h5⟩:=hok;have hi:j<ops.length:=by
   unfold zq7 at h3;cases hx:ops[j]? with
   |none=>rw[hx]at h3;cases h3
   |some x=>exact(kp9.1 hx).1
  have e:ops.getD j default=ops[j]:=by simp[kH2,hi]
  rw[iW];simp only[cbt,e]at hv;rw[jO]at hv;refine⟨?_,xW h5 hW hv.2⟩;simp only[kr1 hi];refine oT (oV hv.1) fun T' h' hv=>⟨fun x hx hm=>?_,xW h4 hW hv.2⟩;rcases hW x hx with hn|⟨o,T1,T2,hm',hp⟩
  ·exact absurd hm (hn j)
  ·exact hp _ (oV (zr2 hv.1 _ _ _ _ hm' hm))
theorem Sub.get {h:aB} {ids:List Nat}:∀{T0 T:Sl},Sub h ids T0 T→∀i v0,T0.lookup i=some v0→∃v v1,T.lookup i=some v∧WkV v v1∧cF h ids v1=some v0
 |[],_,_,_,_,h=>by cases h
 |(k,u)::r,T,hs,i,v0,h=>by
  rw[kx3]at h;split at h
  ·rename_i e;have:i=k:=by simpa using e
   subst this;cases h;have h1:=hs.1;split at h1
   ·rename_i v hv;obtain⟨v1,a,b⟩:=h1;exact⟨v,v1,hv,a,b⟩
   ·exact h1.elim
  ·exact Sub.get hs.2 i v0 h
theorem St.same {T T':Sl} {h:aB} {a:Act} {w:World} (s:St w0 μ0 h0 N df T h a w) (hs:∀i v,T'.lookup i=some v→T.lookup i=some v):St w0 μ0 h0 N df T' h a w:=by
 obtain⟨μ,H,G,S,hN,hdf⟩:=s;exact⟨μ,H,G,fun i v hi=>S i v (hs i v hi),hN,hdf⟩
theorem St.less {T T':Sl} {h h1:aB} {a:Act} {w:World} (s:St w0 μ0 h0 N df T h a w) (hk:fG h0.length T h T' h1):St w0 μ0 h0 N df T' h1 a w:=by
 obtain⟨μ,H,G,S,hN,hdf⟩:=s;obtain⟨gs,bs,T1,hs,hh,h2,ids,k0,k0',k1,k2,k3,k4,k5⟩:=hk;obtain⟨μ1,H1,S1,g1⟩:=zW0 H S k0;obtain⟨μ,H,g2⟩:=vA H1 k0';have S:=S1.good g2;have g0:=g1.trans g2;have g:Good w μ hh w μ h2:=k1.good;obtain⟨μ',H',hr,G'⟩:=zV8 (k1.hrep H) ((G.trans g0).trans g) k2 k3 k4;refine⟨μ',H',G',fun i v hi=>?_,hN,hdf⟩;obtain⟨v0,v1,a1,a2,a3⟩:=k5.get i v hi;exact hr _ _ _ (a2.rep ((S i v0 a1).good g)) a3
theorem jt1 {Y:kX} (hY:∀vs h (K K':Option VX→aB→Prop),(∀pd h,K pd h→K' pd h)→Y vs h K→Y vs h K') {o:VOp} {T:Sl} {ys:List Tmp} {h:aB} {pd:Option VX} {K K':KO}
  (hk:∀T ys h pd,K T ys h pd→K' T ys h pd) (hv:lP P Y o T ys h pd K):lP P Y o T ys h pd K':=by
 unfold lP at *;split at hv
 ·exact hk _ _ _ _ hv
 ·obtain⟨e,vs,h1,h2⟩:=hv;exact⟨e,vs,h1,hY _ _ _ _ (fun _ _=>hk _ _ _ _) h2⟩
 ·exact vI hv fun _ _=>hk _ _ _ _
theorem zW3 {Y:kX} (hY:∀vs h (K K':Option VX→aB→Prop),(∀pd h,K pd h→K' pd h)→Y vs h K→Y vs h K'):∀{l:List VOp} {T:Sl} {ys:List Tmp} {h:aB} {pd:Option VX} {K K':KO},
  (∀T ys h pd,K T ys h pd→K' T ys h pd)→eH P Y l T ys h pd K→eH P Y l T ys h pd K'
 |[],_,_,_,_,_,_,hk,hv=>hk _ _ _ _ hv
 |_::_,_,_,_,_,_,_,hk,hv=>jt1 hY (fun _ _ _ _ hv=>zW3 hY hk hv) hv
theorem jt2 {n:Nat} {Y:kX} (hY:∀vs h (K K':Option VX→aB→Prop),(∀pd h,K pd h→K' pd h)→Y vs h K→Y vs h K'):∀{c:aC} {K K':KY} {T:Sl} {ys:List Tmp} {h:aB} {pd:Option VX},
  (∀e T ys h pd,K e T ys h pd→K' e T ys h pd)→dY P n Y c K T ys h pd→dY P n Y c K' T ys h pd:=by
 intro c;induction c with
 |skip=>intro K K' T ys h pd hk hv;exact hk _ _ _ _ _ hv
 |ops l=>intro K K' T ys h pd hk hv;exact zW3 hY (hk .normal) hv
 |seq a b iha ihb=>
  intro K K' T ys h pd hk hv;refine iha (fun e T ys h pd hv=>?_) hv;cases e with
  |normal=>exact ihb hk hv
  |exit id=>exact hk _ _ _ _ _ hv
  |ret=>exact hk _ _ _ _ _ hv
 |cond c x y ihx ihy=>
  intro K K' T ys h pd hk hv;have hv:iX (opd T c) (dY P n Y x K T ys h pd) (dY P n Y y K T ys h pd):=hv;show iX (opd T c) (dY P n Y x K' T ys h pd) (dY P n Y y K' T ys h pd);unfold iX at hv ⊢;split at hv
  ·exact⟨fun e=>ihx hk (hv.1 e),fun e=>ihy hk (hv.2 e)⟩
  ·exact hv
 |block id c ih=>
  intro K K' T ys h pd hk hv;refine ih (fun e T ys h pd hv=>?_) hv;cases e with
  |normal=>exact hk _ _ _ _ _ hv
  |exit id'=>
   have hv:(if id'=id then K .normal else K (.exit id')) T ys h pd:=hv;show(if id'=id then K' .normal else K' (.exit id')) T ys h pd;split
   ·rename_i e;rw[if_pos e]at hv;exact hk _ _ _ _ _ hv
   ·rename_i e;rw[if_neg e]at hv;exact hk _ _ _ _ _ hv
  |ret=>exact hk _ _ _ _ _ hv
 |loop c ih=>
  intro K K' T ys h pd hk hv;obtain⟨I,h0,hr⟩:=hv;refine⟨I,h0,fun k T ys h pd hi=>ih (fun e T ys h pd hv=>?_) (hr k T ys h pd hi)⟩;cases e with
  |normal=>exact hv
  |exit id=>exact hk _ _ _ _ _ hv
  |ret=>exact hk _ _ _ _ _ hv
 |exit id=>intro K K' T ys h pd hk hv;exact hk _ _ _ _ _ hv
 |ret=>intro K K' T ys h pd hk hv;exact hk _ _ _ _ _ hv
 |_=>intro K K' T ys h pd hk hv;exact hv
theorem xX:∀{l:List VOp} {T:Sl} {h:aB} {K K':Sl→aB→Prop},(∀T h,K T h→K' T h)→nX P l T h K→nX P l T h K'
 |[],_,_,_,_,hk,hv=>hk _ _ hv
 |_::_,_,_,_,_,hk,hv=>vI hv fun _ _ hv=>xX hk hv
theorem vJ {ob:List (Nat×List Nat)}:∀{l:List (Nat×VOp)} {W:List (Nat×VOp×Sl×Sl)} {T:Sl} {h:aB} {K K':Sl→aB→Prop},(∀T h,K T h→K' T h)→nA P ob l W T h K→nA P ob l W T h K'
 |[],_,_,_,_,_,hk,hv=>hk _ _ hv
 |(i,o)::_,_,_,_,_,_,hk,hv=>by
  rw[nA]at hv ⊢;split
  ·rename_i hr;rw[if_pos hr]at hv;exact vI hv fun _ _ hv=>vJ hk hv
  ·rename_i hr;rw[if_neg hr]at hv;exact vI hv fun _ _ hv=>⟨hv.1,vJ hk hv.2⟩
theorem rJ {ob:List (Nat×List Nat)}:∀{t:VBT} {W:List (Nat×VOp×Sl×Sl)} {T:Sl} {h:aB} {K K':Sl→aB→Prop},(∀T h,K T h→K' T h)→jO P ob t W T h K→jO P ob t W T h K'
 |.leaf,_,_,_,_,_,hk,hv=>hk _ _ hv
 |.no,_,_,_,_,_,_,_=>trivial
 |.ro i o t,_,_,_,_,_,hk,hv=>vI (o:=o) hv fun _ _ hv=>rJ (t:=t) hk hv
 |.alt j o t r,_,_,_,_,_,hk,hv=>⟨vI (o:=o) hv.1 fun _ _ hv=>⟨hv.1,rJ (t:=t) hk hv.2⟩,rJ (t:=r) hk hv.2⟩
theorem zW4 {r:Option Nat} {n id:Nat} {ops:Array Oper} {draw:Bool} {sg:cO} {K:VX→Sl→aB→Prop} {Q:Exit→Act→World→Prop} {T:Sl} {h:aB} {a:Act} {w:World} (hm:P.follows .mixedOrders=true)
  (hok:eG P N sg (.region id ops draw)=true) (s:St w0 μ0 h0 N df T h a w) (hk:∀T' h' a' w',K .normal T' h'→St w0 μ0 h0 N df T' h' a' w'→Q .normal a' w')
  (hv:vwp P h0.length (aN sg (.region id ops draw)) K T h):(Code.region id ops draw).wpIn (FW r) n P Q a w:=by
 obtain⟨ops⟩:=ops;simp only[eG,ks2]at hok;obtain⟨hd,hok⟩:=hok
 let K':Sl→aB→Prop:=fun T h=>∃T0,iA T0 T∧K .normal T0 h
 have hK:∀T T' h,iA T T'→K' T h→K' T' h:=fun T T' h hs ⟨T0,h1,h2⟩=>⟨T0,fun i=>(h1 i).trans (hs i),h2⟩;have hk':∀T' h' a' w',K' T' h'→St w0 μ0 h0 N df T' h' a' w'→Q .normal a' w':=fun T' h' a' w' ⟨T0,h1,h2⟩ s=>hk _ _ _ _ h2 (s.same fun i v hi=>(h1 i).symm.trans hi);have hKK:∀T h,K .normal T h→K' T h:=fun T h hv=>⟨T,fun _=>rfl,hv⟩;simp only[aN]at hv;cases hsg:sg.lookup id with
 |none=>
  simp only[hsg]at hv hok;cases draw with
  |false=>exact wpIn_region_list (zV4 hk ops (fun o ho=>vD hd ho) s (zr1 hv))
  |true=>
   simp only[Bool.not_true,Bool.false_or]at hok;refine zV5 (ob:=fun _=>[]) hm hok hd hK hk' s ?_;refine ze2 (fun i hi=>by simpa using hi) ?_;have:(kt4 ops.length).map (fun i=>cop ops (ops.getD i default))=ops.map (cop ops):=by
    apply List.ext_getElem
    ·simp
    ·intro i h1 h2;have:i<ops.length:=by simpa using h1
     simp[this]
   rw[this];exact xX hKK hv
 |some x=>
  by_cases hx:isK x=true
  ·simp only[hsg,hx,if_true]at hv hok;split at hok
   ·rename_i σ ob r e;simp only[e]at hv;simp only[ks2]at hok;obtain⟨rfl,hok⟩:=hok;have hok':=hok;unfold vF at hok';simp only[ks2]at hok'
    let K2:Sl→aB→Prop:=fun T h=>∃Tx,iA Tx T∧∃T0 hh,fG h0.length Tx h T0 hh∧K .normal T0 hh
    have hK2:∀T T' h,iA T T'→K2 T h→K2 T' h:=fun T T' h hs ⟨Tx,h1,h2⟩=>⟨Tx,fun i=>(h1 i).trans (hs i),h2⟩;have hk2:∀T' h' a' w',K2 T' h'→St w0 μ0 h0 N df T' h' a' w'→Q .normal a' w':=fun T' h' a' w' ⟨Tx,h1,T0,hh,h2,h3⟩ s=>hk _ _ _ _ h3 ((s.same fun i v hi=>(h1 i).symm.trans hi).less h2);exact zV7 hm hok hd hK2 hk2 s (xW hok'.2 (fun x hx=>by cases hx) (rJ (fun T h hv=>⟨T,fun _=>rfl,hv⟩) hv))
   ·cases hok
  have hx':isK x=false:=by simpa using hx
  simp only[hsg,hx',Bool.false_eq_true,if_false]at hv hok
  match x,hsg with
  |[(σ,ob)],hsg=>
   simp only[ks2]at hv hok;obtain⟨rfl,hok⟩:=hok;have hlt:∀i∈σ,i<ops.length:=by
    have:=hok;simp only[xM,ks2]at this;intro i hi;simpa using List.all_eq_true.1 this.1.1.1.2 i hi
   refine zV5 hm hok hd hK hk' s ?_;cases ob with
   |nil=>
    have e:iB []=fun _=>[]:=by funext i;rfl
    rw[e];exact ze2 hlt (xX hKK hv)
   |cons y r=>exact xV hlt (fun x hx=>by cases hx) (vJ hKK hv)
  |[(σ,ob),(σ',ob')],hsg=>
   simp only[ks2]at hv hok;obtain⟨rfl,hok⟩:=hok;have hb:=hok;unfold zd9 at hb;split at hb
   ·simp only[ks2]at hb;obtain⟨⟨⟨⟨⟨⟨⟨⟨⟨_,_⟩,_⟩,b4⟩,b5⟩,_⟩,_⟩,_⟩,_⟩,_⟩:=hb;have hlt:∀i∈σ,i<ops.length:=fun i hi=>((ze0 b4 i).1 hi).1;have hlt':∀i∈σ',i<ops.length:=fun i hi=>((ze0 b5 i).1 hi).1;exact js5 hm hok hd hK hk' s (xV hlt (fun x hx=>by cases hx) (vJ hKK hv.1)) (xV hlt' (fun x hx=>by cases hx) (vJ hKK hv.2))
   ·cases hb
  |[],hsg=>cases hok
  |(σ,ob)::y::z::rest,hsg=>
   simp only[ks2]at hv hok;obtain⟨rfl,hok⟩:=hok;have hok':=hok;unfold vF at hok';simp only[ks2]at hok';exact zV7 hm hok hd hK hk' s (xW hok'.2 (fun x hx=>by cases hx) (rJ hKK hv))
open Classical in
theorem vK {r:Option Nat} {n:Nat} {sg:cO} (hm:P.follows .mixedOrders=true):∀(c:Code) {K:VX→Sl→aB→Prop} {Q:Exit→Act→World→Prop} {T:Sl} {h:aB} {a:Act} {w:World},eG P N sg c=true→
  (∀e T' h' a' w',K e T' h'→St w0 μ0 h0 N df T' h' a' w'→Q e.toExit a' w')→St w0 μ0 h0 N df T h a w→vwp P h0.length (aN sg c) K T h→c.wpIn (FW r) n P Q a w:=by
 intro c;induction c with
 |skip=>intro K Q T h a w _ hk s hv;exact wpIn_skip (hk .normal _ _ _ _ hv s)
 |region id ops draw=>intro K Q T h a w hok hk s hv;exact zW4 hm hok s (hk .normal) hv
 |seq x y ihx ihy=>
  intro K Q T h a w hok hk s hv;simp only[eG,ks2]at hok;refine wpIn_seq (ihx hok.1 ?_ s hv);intro e T' h' a' w' hv' s';cases e with
  |normal=>exact ihy hok.2 hk s' hv'
  |exit id=>exact hk (.exit id) _ _ _ _ hv' s'
  |ret=>exact hk .ret _ _ _ _ hv' s'
 |cond o x y ihx ihy=>
  intro K Q T h a w hok hk s hv;simp only[eG,ks2]at hok;have hv:iX (opd T o) (vwp P h0.length (aN sg x) K T h) (vwp P h0.length (aN sg y) K T h):=hv;unfold iX at hv;split at hv
  ·rename_i t ht;obtain⟨μ,H,G,S,hN,hdf⟩:=s;have hr:=bR S ht;have he:a.eval o = .bool t:=by
    revert hr
    generalize a.eval o=x;intro hr;cases hr with
    |one _ hl=>cases hl with|d hd=>cases hd;rfl
   refine wpIn_cond he ?_;cases t with
   |true=>exact ihx hok.1 hk ⟨μ,H,G,S,hN,hdf⟩ (hv.1 rfl)
   |false=>exact ihy hok.2 hk ⟨μ,H,G,S,hN,hdf⟩ (hv.2 rfl)
  ·exact hv.elim
 |block id c ih=>
  intro K Q T h a w hok hk s hv;refine wpIn_block (ih hok ?_ s hv);intro e T' h' a' w' hv' s';cases e with
  |normal=>exact hk .normal _ _ _ _ hv' s'
  |exit id'=>
   show(if id'=id then Q .normal a' w' else Q (.exit id') a' w');have hv':if id'=id then K .normal T' h' else K (.exit id') T' h':=hv'
   split
   ·rename_i e;rw[if_pos e]at hv';exact hk .normal _ _ _ _ hv' s'
   ·rename_i e;rw[if_neg e]at hv';exact hk (.exit id') _ _ _ _ hv' s'
  |ret=>exact hk .ret _ _ _ _ hv' s'
 |loop c ih=>
  intro K Q T h a w hok hk s hv;obtain⟨I,⟨n0,T0,hh0,hs0,hI0⟩,hround⟩:=hv
  let at_:Act→World→Nat→Prop:=fun a w m=>∃T h,I m T h∧St w0 μ0 h0 N df T h a w
  have hmin:∀(p:Nat→Prop),(∃m,p m)→∃m,p m∧∀k,p k→m≤k:=by
   intro p ⟨m,hm⟩;induction m using Nat.strongRecOn with
   |_ m ih=>
    by_cases hex:∃k,p k∧k<m
    ·obtain⟨k,hk,hlt⟩:=hex;exact ih k hlt hk
    ·exact⟨m,hm,fun k hk=>Nat.le_of_not_lt fun hlt=>hex ⟨k,hk,hlt⟩⟩
  let meas:Act→World→Nat:=fun a w=>if hx:∃m,at_ a w m then (hmin _ hx).choose else 0
  refine wpIn_loop (fun a w=>∃m,at_ a w m) meas ⟨n0,T0,hh0,hI0,s.less hs0⟩ ?_;intro a w hx;have hspec:=(hmin _ hx).choose_spec;have hme:meas a w=(hmin _ hx).choose:=dif_pos hx;rw[←hme]at hspec;obtain⟨⟨T1,h1,hI1,s1⟩,_⟩:=hspec;refine ih hok ?_ s1 (hround _ _ _ hI1);intro e T' h' a' w' hv' s';cases e with
  |normal=>
   obtain⟨m,T0,hh1,hlt,hsub,hI⟩:=hv';have hx':∃m,at_ a' w' m:=⟨m,T0,hh1,hI,s'.less hsub⟩;refine⟨hx',?_⟩;have hspec':=(hmin _ hx').choose_spec;have hme':meas a' w'=(hmin _ hx').choose:=dif_pos hx';rw[hme'];exact Nat.lt_of_le_of_lt (hspec'.2 m ⟨T0,hh1,hI,s'.less hsub⟩) hlt
  |exit id=>exact hk (.exit id) _ _ _ _ hv' s'
  |ret=>exact hk .ret _ _ _ _ hv' s'
 |exit id=>intro K Q T h a w _ hk s hv;exact wpIn_exit (hk (.exit id) _ _ _ _ hv s)
 |ret=>intro K Q T h a w _ hk s hv;exact wpIn_ret (hk .ret _ _ _ _ hv s)
 |rangeFunc=>intro K Q T h a w hok;cases hok
 |scope=>intro K Q T h a w _ _ _ hv;exact hv.elim
 |label=>intro K Q T h a w _ _ _ hv;exact hv.elim
 |goto=>intro K Q T h a w _ _ _ hv;exact hv.elim
 |refuse=>intro K Q T h a w _ _ _ hv;exact hv.elim
end Go.Vt
