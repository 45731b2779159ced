import Derived.Test.YtdabfkmhkoppcaaGreatDoorVtStep
import Derived.OrdersIn
set_option linter.all false
open List renaming lookup_cons→kx3,lookup→kt8,mem_cons_of_mem→kw6,mem_cons_self→kA3,mem_cons→kt6
namespace Go.Vt
set_option linter.unusedSectionVars false
set_option linter.unusedVariables false
variable [cJ]
theorem jr2 {T T':Sl} (h:∀i,T.lookup i=T'.lookup i) (x:Operand):opd T x=opd T' x:=by
 cases x<;>first|exact h _|rfl
theorem zd5 {T T':Sl}:∀{xs:List Operand},(∀x∈xs,opd T x=opd T' x)→eO T xs=eO T' xs
 |[],_=>rfl
 |x::r,h=>by
  unfold eO;rw[h x (by simp),zd5 fun y hy=>h y (by simp[hy])]
theorem zp9 {T T':Sl}:∀{xs:List (Nat×Operand)},(∀x∈xs,opd T x.2=opd T' x.2)→lI T xs=lI T' xs
 |[],_=>rfl
 |(k,x)::r,h=>by
  unfold lI;rw[h (k,x) (by simp),zp9 fun y hy=>h y (by simp[hy])]
theorem zq0 {P:Program} {T T':Sl} {h:aB} {o:Oper} (he:∀x∈o.op.operands,opd T x=opd T' x):vop P T h o=vop P T' h o:=by
 obtain⟨dst,op,type,pos,after,guard⟩:=o;cases op<;>simp only[Op.operands]at he
 case build t ps=>
  simp only[vop];rw[zp9 (T:=T) (T':=T') fun x hx=>he x.2 (by simpa using⟨x.1,by simpa using hx⟩)]
 case makeFunc fn first caps=>
  cases fn<;>try rfl
  simp only[vop];rw[zd5 (T:=T) (T':=T') (xs:=caps.toList) fun x hx=>he x (by simp at hx ⊢;exact .inr hx),zd5 (T:=T) (T':=T') (xs:=first.toList) fun x hx=>he x (by simp at hx ⊢;exact .inl hx)]
 case slice t x lo hi mx=>
  cases mx with
  |some m=>cases lo<;>cases hi<;>simp_all [vop]
  |none=>cases lo<;>cases hi<;>simp_all [vop,kT]
 case call c=>
  obtain⟨callee,args,ats⟩:=c;simp only[Call.operands]at he;cases callee with
  |builtin b=>
   have hargs:∀x∈args.toList,opd T x=opd T' x:=fun x hx=>he x (by simpa using hx);cases b<;>(try rfl)
   ·simp only[vop];split
    ·rename_i x t e1 e2;rw[hargs x (by rw[e1];simp)]
    ·rfl
   ·simp only[vop];split
    ·rename_i x y e1;rw[hargs x (by rw[e1];simp),hargs y (by rw[e1];simp)]
    ·rfl
   ·simp only[vop];split
    ·rename_i x y e1;rw[hargs x (by rw[e1];simp),hargs y (by rw[e1];simp)]
    ·rfl
  |value f=>rfl
  |invoke r m=>rfl
 all_goals first|rfl|(simp_all [vop];done)
theorem jr3 {P:Program} {T T':Sl} {h:aB} {o:Oper} (he:∀x∈o.op.operands,opd T x=opd T' x):dW P T h o=dW P T' h o:=by
 obtain⟨dst,op,type,pos,after,guard⟩:=o;cases op<;>simp only[Op.operands]at he
 case buildSlice t n ps=>
  simp only[dW];rw[zp9 (T:=T) (T':=T') fun x hx=>he x.2 (by simpa using⟨x.1,by simpa using hx⟩)]
 case call c=>
  obtain⟨callee,args,ats⟩:=c;simp only[Call.operands]at he;cases callee with
  |builtin b=>
   have hargs:∀x∈args.toList,opd T x=opd T' x:=fun x hx=>he x (by simpa using hx);cases b<;>(try rfl)
   ·simp only[dW];split
    ·rename_i x y t t' e1 e2;rw[hargs x (by rw[e1];simp),hargs y (by rw[e1];simp)]
    ·rfl
   ·simp only[dW];split
    ·rename_i x y t t' e1 e2;rw[hargs x (by rw[e1];simp),hargs y (by rw[e1];simp)]
    ·rfl
   ·simp only[dW];split
    ·rename_i x e1;rw[hargs x (by rw[e1];simp)]
    ·rfl
   ·simp only[dW];split
    ·rename_i x y t t' e1 e2;rw[hargs x (by rw[e1];simp),hargs y (by rw[e1];simp)]
    ·rfl
  |value f=>
   cases f<;>first|rfl|skip
   rename_i f;have hargs:∀x∈args.toList,opd T x=opd T' x:=fun x hx=>he x (by simp;exact .inr (by simpa using hx));simp only[dW];split
   ·split
    ·rename_i x e1;rw[hargs x (by rw[e1];simp)]
    ·rfl
   ·rfl
  |invoke r m=>rfl
 all_goals first|rfl|(simp_all [dW];done)
theorem jr4 {P:Program} {T T':Sl} {h:aB} {o:Oper} {K:V→aB→Prop} (he:∀x∈o.op.operands,opd T x=opd T' x):cH P T h o K=cH P T' h o K:=by
 unfold cH;split
 ·rename_i f args ats ho;rw[ho]at he;simp only[Op.operands,Call.operands]at he;rw[he f (by simp),zd5 (T:=T) (T':=T') fun x hx=>he x (by simp;exact .inr (by simpa using hx))]
 ·rename_i op t x yt ho;rw[ho]at he;rw[he x (by simp[Op.operands])]
 ·rfl
theorem zU8 {P:Program} {T T':Sl} {h:aB} {o:Oper} {K:V→aB→Prop} (he:∀x∈o.op.operands,opd T x=opd T' x):eW P T h o K=eW P T' h o K:=by
 unfold eW;rw[zq0 he,jr3 he,jr4 he]
def gH (ops:List Oper) (o:Oper) (T T':Sl):Prop:=(∀x∈o.op.operands,opd T x=opd T' x)∧∀g b,o.guard=some (g,b)→lM ops T g=lM ops T' g
theorem gH.symm {ops:List Oper} {o:Oper} {T T':Sl} (h:gH ops o T T'):gH ops o T' T:=⟨fun x hx=>(h.1 x hx).symm,fun g b hg=>(h.2 g b hg).symm⟩
theorem jr5 {ops:List Oper} {T T':Sl} (h:∀i,T.lookup i=T'.lookup i) (g:Nat):lM ops T g=lM ops T' g:=by
 unfold lM;split
 ·split
  ·rw[h]
  ·rfl
 ·rfl
theorem gH.all {ops:List Oper} {o:Oper} {T T':Sl} (h:∀i,T.lookup i=T'.lookup i):gH ops o T T':=⟨fun x _=>jr2 h x,fun g _ _=>jr5 h g⟩
theorem gH.put {ops:List Oper} {o:Oper} {T:Sl} {d:Option Tmp} {v:V} (h:∀t,d=some t→t∉o.looksAt ops.toArray):gH ops o (bI T d v) T:=by
 cases d with
 |none=>exact⟨fun _ _=>rfl,fun _ _ _=>rfl⟩
 |some t=>
  have ht:=h t rfl;have hne:∀i,i≠t→(bI T (some t) v).lookup i=T.lookup i:=by
   intro i hi;show kt8 i ((t,v)::T)=_;rw[kx3];have:(i == t)=false:=by simpa using hi
   rw[this]
  refine⟨fun x hx=>?_,fun g b hg=>?_⟩
  ·cases x with
   |tmp i=>
    refine hne i fun e=>ht ?_;subst e;exact List.mem_append_left _ (List.mem_filterMap.2 ⟨.tmp i,by simpa using hx,rfl⟩)
   |_=>rfl
  ·unfold lM;split
   ·rename_i og hog;split
    ·rename_i dg hdg;rw[hne dg];intro e;subst e;refine ht (List.mem_append_right _ ?_);rw[hg];simp[hog,hdg]
    ·rfl
   ·rfl
theorem sW {P:Program} {ops:List Oper} {o:Oper} {T T':Sl} {h:aB} {K K':Sl→aB→Prop} (ha:gH ops o T T') (hk:∀v h',K (bI T o.dst v) h'→K' (bI T' o.dst v) h') (hv:vgo P ops o T h K):vgo P ops o T' h K':=by
 unfold vgo at *;split at hv
 ·rw[zU8 ha.1]at hv;exact vB hv hk
 ·rename_i g want hg;rw[ha.2 _ _ hg]at hv;split at hv
  ·refine⟨fun e=>?_,fun e=>hk _ _ (hv.2 e)⟩;have:=hv.1 e;rw[zU8 ha.1]at this;exact vB this hk
  ·exact hv
def ro:Op→Bool
 |.move _|.assign _|.pick ..|.build ..|.load ..|.nilCheck _|.unOp ..|.convert ..|.fieldAddr ..|.field ..|.indexAddr ..|.index ..|.extract ..|.makeFunc ..|.slice ..=>true
 |.binOp _ _ _ y _=>match y with
  |.const (.slice none 0 0)=>false
  |_=>true
 |.call { callee:=.builtin b,.. }=>match b with
  |.len|.max|.min=>true
  |_=>false
 |_=>false
theorem jr6 {P:Program} {T:Sl} {h h':aB} {o:Oper} {v:V} (hr:ro o.op=true) (hv:vop P T h o=some (v,h')):h'=h:=by
 unfold vop at hv;split at hv<;>rename_i ho<;>first|(cases hv;done)|(rw[ho]at hr;simp[ro]at hr;done)|skip
 all_goals ((repeat' split at hv)<;>first|(cases hv;done)|(cases hv;rfl))
theorem jr7 {P:Program} {T:Sl} {h:aB} {o:Oper} (hr:ro o.op=true):dW P T h o=none:=by
 unfold dW;split<;>rename_i ho<;>first|rfl|(rw[ho]at hr;simp[ro]at hr;done)
theorem jr8 {P:Program} {T:Sl} {h:aB} {o:Oper} {K:V→aB→Prop} (hr:ro o.op=true):¬cH P T h o K:=by
 unfold cH;split<;>rename_i ho<;>first|exact id|(rw[ho]at hr;simp[ro]at hr;done)
theorem zq1 {P:Program} {T:Sl} {h:aB} {o:Oper} {K:V→aB→Prop} (hr:ro o.op=true):eW P T h o K↔∃v,vop P T h o=some (v,h)∧K v h:=by
 unfold eW;cases hv:vop P T h o with
 |some x=>
  obtain⟨v,h'⟩:=x;have:=jr6 hr hv;subst this;exact⟨fun hk=>⟨v,rfl,hk⟩,fun⟨v',e,hk⟩=>by cases e;exact hk⟩
 |none=>
  rw[jr7 hr];exact⟨fun hk=>(jr8 hr hk).elim,fun⟨v',e,_⟩=>by cases e⟩
def Ran (P:Program) (ops:List Oper) (o:Oper) (T:Sl) (h:aB) (v:V):Prop:=
 match o.guard with
 |none=>vop P T h o=some (v,h)
 |some (g,want)=>match lM ops T g with
  |some b=>(b=some want→vop P T h o=some (v,h))∧(b≠some want→v=sV)
  |none=>False
theorem kW {P:Program} {ops:List Oper} {o:Oper} {T:Sl} {h:aB} {K:Sl→aB→Prop} (hr:ro o.op=true):vgo P ops o T h K↔∃v,Ran P ops o T h v∧K (bI T o.dst v) h:=by
 unfold vgo Ran;cases hg:o.guard with
 |none=>exact zq1 hr
 |some gw=>
  obtain⟨g,want⟩:=gw;simp only;cases hb:lM ops T g with
  |none=>simp
  |some b=>
   simp only;constructor
   ·rintro⟨h1,h2⟩;by_cases e:b=some want
    ·obtain⟨v,a,c⟩:=(zq1 hr).1 (h1 e);exact⟨v,⟨fun _=>a,fun hn=>absurd e hn⟩,c⟩
    ·exact⟨sV,⟨fun he=>absurd he e,fun _=>rfl⟩,h2 e⟩
   ·rintro⟨v,⟨h1,h2⟩,hk⟩;exact⟨fun e=>(zq1 hr).2 ⟨v,h1 e,hk⟩,fun e=>by rw[←h2 e];exact hk⟩
set_option linter.unusedSectionVars false
set_option linter.unusedVariables false
variable [cJ]
def heapless (P:Program):Op→Bool
 |.convert s t _=>match ti P t with
  |some j=>match j.kd with
   |.int _=>true
   |.str=>(match ti P s with
    |some i=>(match i.kd with
     |.str=>true
     |_=>false)
    |none=>false)
   |_=>false
  |none=>false
 |.move _|.assign _|.pick ..|.build ..|.unOp ..|.field ..|.index ..|.extract ..|.makeFunc ..=>true
 |.binOp _ t _ y _=>match y with
  |.const (.slice none 0 0)=>false
  |_=>match ti P t with
   |some i=>match i.kd with
    |.ptr=>false
    |_=>true
   |none=>false
 |.call { callee:=.builtin b,.. }=>match b with
  |.max|.min=>true
  |_=>false
 |_=>false
theorem jr9 {h h':aB} {kd:TK} {op:BinOp} {u v:V} (hk:kd≠.ptr):gV h kd op u v=gV h' kd op u v:=by
 unfold gV;split<;>first|rfl|skip
 cases kd<;>first|rfl|exact absurd rfl hk
theorem js0 {P:Program} {h h':aB} {t:TypeId} {kd:TK} {op:BinOp} {u v:V} (hk:kd≠.ptr):gZ P h t kd op u v=gZ P h' t kd op u v:=by
 unfold gZ;rw[jr9 (h':=h') hk];split
 ·rfl
 ·cases kd<;>first|rfl|exact absurd rfl hk
theorem zU9 {P:Program} {T:Sl} {h h2:aB} {o:Oper} {v:V} (hr:heapless P o.op=true) (hv:vop P T h o=some (v,h)):vop P T h2 o=some (v,h2):=by
 obtain⟨dst,op,type,pos,after,guard⟩:=o;cases op<;>simp only[heapless]at hr<;>try (cases hr;done)
 case binOp op t x y yt=>
  split at hr
  ·cases hr
  ·split at hr
   ·rename_i i hi;split at hr
    ·cases hr
    ·rename_i hk;have hb:∀u v,gZ P h t i.kd op u v=gZ P h2 t i.kd op u v:=fun u v=>js0 fun e=>hk e;simp only[vop,hi]at hv ⊢;cases hx:opd T x<;>cases hy:opd T y<;>simp only[hx,hy]at hv ⊢<;>first|(cases hv;done)|skip
     rw[hb]at hv;split at hv
     ·cases hv;simp_all
     ·cases hv
   ·cases hr
 case convert s t x=>
  split at hr
  ·rename_i j hj;simp only[vop,hj]at hv ⊢;generalize opd T x=ox at hv ⊢;generalize ti P s=os at hr hv ⊢;rcases os with _|os
   ·cases hv
   rcases ox with _|⟨l|_|_⟩<;>first|(cases hv;done)|skip
   cases l<;>first|(cases hv;done)|skip
   ·rename_i d;cases d<;>first|(cases hv;done)|skip
    ·simp only at hv ⊢;split at hv<;>first|(cases hv;done)|(cases hv;simp_all)
    ·simp only at hv ⊢;split at hv<;>first|(cases hv;done)|(cases hv;simp_all)
   ·exfalso;simp only at hv hr;cases ej:j.kd<;>simp only[ej]at hr hv<;>first|(cases hr;done)|(cases hv;done)|skip
    all_goals cases ei:os.kd<;>simp only[ei]at hr hv<;>first|(cases hr;done)|(cases hv;done)|(simp at hr;done)|(exact absurd hr (by decide))
   ·exfalso;simp only at hv hr;cases ej:j.kd<;>simp only[ej]at hr hv<;>first|(cases hr;done)|(cases hv;done)
  ·cases hr
 case makeFunc fn first caps=>
  cases fn<;>simp only[vop]at hv ⊢<;>first|(cases hv;done)|skip
  (repeat' split at hv)<;>first|(cases hv;done)|(cases hv;simp_all)
 case call c=>
  obtain⟨callee,args,ats⟩:=c;cases callee with
  |builtin b=>
   cases b<;>simp only at hr<;>(try (cases hr;done))
   all_goals
    simp only[vop]at hv ⊢;split at hv
    ·rename_i x y e1
     try simp only[e1]
     split at hv
     ·rename_i k a k' b e2 e3
      try simp only[e2,e3]
      cases hv;rfl
     ·cases hv
    ·cases hv
  |value f=>cases hr
  |invoke r m=>cases hr
 all_goals (simp only[vop]at hv ⊢;(repeat' split at hv)<;>first|(cases hv;done)|(cases hv;simp_all;done))
theorem Ran.heapless {P:Program} {ops:List Oper} {T:Sl} {h h2:aB} {o:Oper} {v:V} (hr:Vt.heapless P o.op=true) (hv:Ran P ops o T h v):Ran P ops o T h2 v:=by
 unfold Ran at *;split at hv
 ·exact zU9 hr hv
 ·split at hv
  ·exact⟨fun e=>zU9 hr (hv.1 e),hv.2⟩
  ·exact hv
theorem Ran.agree {P:Program} {ops:List Oper} {T T':Sl} {h:aB} {o:Oper} {v:V} (ha:gH ops o T T') (hv:Ran P ops o T h v):Ran P ops o T' h v:=by
 unfold Ran at *;split at hv
 ·rw[←zq0 ha.1];exact hv
 ·rename_i g want hg;rw[←ha.2 _ _ hg];split at hv
  ·rw[←zq0 ha.1];exact hv
  ·exact hv
abbrev iI:=List (Nat×(aB→Prop))
def dQ (P:Program) (ops:List Oper) (ob:Nat→List Nat):List Nat→iI→Sl→aB→(Sl→aB→Prop)→Prop
 |[],_,T,h,K=>K T h
 |i::R,W,T,h,K=>match ops[i]? with
  |none=>False
  |some o=>
   if ro o.op=true then vgo P ops o T h fun T' h'=>dQ P ops ob R ((i,fun h2=>vgo P ops o T h2 fun T2 _=>T2=T')::W) T' h' K
   else vgo P ops o T h fun T' h'=>(∀x∈W,x.1∈ob i→x.2 h')∧dQ P ops ob R W T' h' K
variable {P:Program} {ops:List Oper} {ob:Nat→List Nat}
def iA (T T':Sl):Prop:=∀i,T.lookup i=T'.lookup i
theorem iA.put {T T':Sl} (h:iA T T') (d:Option Tmp) (v:V):iA (bI T d v) (bI T' d v):=by
 cases d with
 |none=>exact h
 |some d=>intro i;show kt8 i ((d,v)::T)=kt8 i ((d,v)::T');simp only[kx3,h i]
theorem zd6 {T:Sl} {d e:Option Tmp} (u v:V) (hne:∀t,d=some t→e≠some t):iA (bI (bI T d v) e u) (bI (bI T e u) d v):=by
 cases d with
 |none=>intro i;rfl
 |some d=>cases e with
  |none=>intro i;rfl
  |some e=>
   intro i;show kt8 i ((e,u)::(d,v)::T)=kt8 i ((d,v)::(e,u)::T);have hde:e≠d:=fun h=>hne d rfl (by rw[h]);simp only[kx3];by_cases h1:i=e
   ·subst h1;have:(i == d)=false:=by simpa using hde
    simp[this]
   ·have:(i == e)=false:=by simpa using h1
    simp[this]
def WLe (W W':iI):Prop:=∀x'∈W',∃x∈W,x.1=x'.1∧∀h,x.2 h→x'.2 h
theorem WLe.refl (W:iI):WLe W W:=fun x hx=>⟨x,hx,rfl,fun _ h=>h⟩
theorem WLe.cons {W W':iI} (h:WLe W W') {i:Nat} {p p':aB→Prop} (hp:∀h,p h→p' h):WLe ((i,p)::W) ((i,p')::W'):=by
 intro x hx;rcases kt6.1 hx with rfl|hx
 ·exact⟨(i,p),by simp,rfl,hp⟩
 ·obtain⟨y,a,b,c⟩:=h x hx;exact⟨y,by simp[a],b,c⟩
theorem zq2 {T T':Sl} {d:Option Tmp} {u v:V} (h:bI T d u=bI T d v):bI T' d u=bI T' d v:=by
 cases d with
 |none=>rfl
 |some d=>
  have:(d,u)::T=(d,v)::T:=h;simp at this;rw[this]
theorem vC {o:Oper} {T T':Sl} {h2:aB} {v:V} (ha:gH ops o T T') (h:vgo P ops o T h2 fun T2 _=>T2=bI T o.dst v):vgo P ops o T' h2 fun T2 _=>T2=bI T' o.dst v:=
 sW ha (fun _ _ e=>zq2 e) h
theorem zd7:∀(R:List Nat) {W W':iI} {T T':Sl} {h:aB} {K K':Sl→aB→Prop},iA T T'→WLe W W'→(∀T T' h,iA T T'→K T h→K' T' h)→dQ P ops ob R W T h K→dQ P ops ob R W' T' h K'
 |[],W,W',T,T',h,K,K',hT,_,hK,hv=>hK _ _ _ hT hv
 |i::R,W,W',T,T',h,K,K',hT,hW,hK,hv=>by
  unfold dQ at hv ⊢;cases ho:ops[i]? with
  |none=>simp[ho]at hv
  |some o=>
   simp only[ho]at hv ⊢;have ha:gH ops o T T':=gH.all hT;split
   ·rename_i hr;rw[if_pos hr]at hv;exact sW ha (fun v h' hv'=>zd7 R (hT.put _ _) (hW.cons fun h2 hp=>vC ha hp) hK hv') hv
   ·rename_i hr;rw[if_neg hr]at hv;refine sW ha (fun v h' hv'=>⟨fun x hx hm=>?_,zd7 R (hT.put _ _) hW hK hv'.2⟩) hv;obtain⟨y,a,b,c⟩:=hW x hx;exact c _ (hv'.1 y a (by rw[b];exact hm))
def oU (P:Program) (ops:List Oper) (ob:Nat→List Nat) (i j:Nat):Bool:=match ops[i]?,ops[j]? with
 |some x,some y=>ro x.op&&x.apart ops.toArray y&&(ro y.op||heapless P x.op||(ob j).contains i)
 |_,_=>false
theorem js1 {i j:Nat} {R:List Nat} {W:iI} {T:Sl} {h:aB} {K:Sl→aB→Prop} (hs:oU P ops ob i j=true) (hK:∀T T' h,iA T T'→K T h→K T' h)
  (hv:dQ P ops ob (i::j::R) W T h K):dQ P ops ob (j::i::R) W T h K:=by
 unfold oU at hs;split at hs
 ·rename_i x y hx hy;simp only[Bool.and_eq_true,Bool.or_eq_true,List.contains_eq_mem,decide_eq_true_eq]at hs;obtain⟨⟨hrx,hap⟩,hs⟩:=hs;obtain⟨a1,a2,a3⟩:=Oper.apart_spec hap;rw[dQ]at hv;simp only[hx,if_pos hrx]at hv;obtain⟨v,hran,hv⟩:=(kW hrx).1 hv;have ay:gH ops y (bI T x.dst v) T:=gH.put a1;have ax:∀u,gH ops x (bI T y.dst u) T:=fun u=>gH.put a3;have wx:∀u h2,(vgo P ops x T h2 fun T2 _=>T2=bI T x.dst v)→vgo P ops x (bI T y.dst u) h2 fun T2 _=>T2=bI (bI T y.dst u) x.dst v:=fun u h2 hp=>vC (ax u).symm hp;rw[dQ]at hv ⊢;simp only[hy]at hv ⊢;by_cases hry:ro y.op=true
  ·rw[if_pos hry]at hv ⊢;obtain⟨u,hru,hv⟩:=(kW hry).1 hv;refine(kW hry).2 ⟨u,hru.agree ay,?_⟩;rw[dQ];simp only[hx,if_pos hrx];refine(kW hrx).2 ⟨v,hran.agree (ax u).symm,?_⟩;refine zd7 R (zd6 u v fun t ht=>a2 t ht) ?_ hK hv;intro p hp;rcases kt6.1 hp with rfl|hp
   ·exact⟨_,kw6 _ kA3,rfl,fun h2 hp=>wx u h2 hp⟩
   rcases kt6.1 hp with rfl|hp
   ·exact⟨_,kA3,rfl,fun h2 hp=>vC ay hp⟩
   ·exact⟨p,kw6 _ (kw6 _ hp),rfl,fun _ h=>h⟩
  ·rw[if_neg hry]at hv ⊢;refine sW ay (fun u h2 hv'=>⟨fun p hp hm=>hv'.1 p (kw6 _ hp) hm,?_⟩) hv;have hx2:∃v2,Ran P ops x T h2 v2∧bI T x.dst v2=bI T x.dst v:=by
    rcases hs with(hs|hs)|hs
    ·exact absurd hs hry
    ·exact⟨v,hran.heapless hs,rfl⟩
    ·have:vgo P ops x T h2 fun T2 _=>T2=bI T x.dst v:=hv'.1 _ kA3 hs;exact(kW hrx).1 this
   obtain⟨v2,hx2,e2⟩:=hx2;rw[dQ];simp only[hx,if_pos hrx];refine(kW hrx).2 ⟨v2,hx2.agree (ax u).symm,?_⟩;rw[zq2 (T':=bI T y.dst u) e2];refine zd7 R (zd6 u v fun t ht=>a2 t ht) ?_ hK hv'.2;exact(WLe.refl W).cons fun h2 hp=>wx u h2 hp
 ·cases hs
end Go.Vt
