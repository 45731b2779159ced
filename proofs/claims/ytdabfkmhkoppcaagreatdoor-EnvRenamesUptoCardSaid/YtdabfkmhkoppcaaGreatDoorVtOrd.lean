import Derived.Test.YtdabfkmhkoppcaaGreatDoorVtStep
import Derived.OrdersIn
set_option linter.all false
open List renaming lookup_cons→kl1,lookup→ki4,mem_cons_of_mem→kk4,mem_cons_self→kn9,mem_cons→kg9
namespace Go.Vt
theorem jj3 {T T':Sl} (h:∀i,T.lookup i=T'.lookup i) (x:Operand):opd T x=opd T' x:=by
 cases x<;>first|exact h _|rfl
theorem zY {T T':Sl}:∀{xs:List Operand},(∀x∈xs,opd T x=opd T' x)→eO T xs=eO T' xs
 |[],_=>rfl
 |x::r,h=>by
  unfold eO;rw[h x (by simp),zY fun y hy=>h y (by simp[hy])]
theorem zl5 {T T':Sl}:∀{xs:List (Nat×Operand)},(∀x∈xs,opd T x.2=opd T' x.2)→kP T xs=kP T' xs
 |[],_=>rfl
 |(k,x)::r,h=>by
  unfold kP;rw[h (k,x) (by simp),zl5 fun y hy=>h y (by simp[hy])]
theorem zl6 {P:Program} {T T':Sl} {h:aB} {o:Oper} (he:∀x∈o.op.operands,opd T x=opd T' x):vop P T h o=vop P T' h o:=by
 obtain⟨dst,op,type,pos,after,guard⟩:=o;cases op<;>simp only[Op.operands]at he
 case build t ps=>
  simp only[vop];rw[zl5 (T:=T) (T':=T') fun x hx=>he x.2 (by simpa using⟨x.1,by simpa using hx⟩)]
 case makeFunc fn first caps=>
  cases fn<;>try rfl
  simp only[vop];rw[zY (T:=T) (T':=T') (xs:=caps.toList) fun x hx=>he x (by simp at hx ⊢;exact .inr hx),zY (T:=T) (T':=T') (xs:=first.toList) fun x hx=>he x (by simp at hx ⊢;exact .inl hx)]
 case slice t x lo hi mx=>
  cases mx with
  |some m=>cases lo<;>cases hi<;>simp_all [vop]
  |none=>cases lo<;>cases hi<;>simp_all [vop,jX]
 case call c=>
  obtain⟨callee,args,ats⟩:=c;simp only[Call.operands]at he;cases callee with
  |builtin b=>
   have hargs:∀x∈args.toList,opd T x=opd T' x:=fun x hx=>he x (by simpa using hx);cases b<;>(try rfl)
   ·simp only[vop];split
    ·rename_i x t e1 e2;rw[hargs x (by rw[e1];simp)]
    ·rfl
   ·simp only[vop];split
    ·rename_i x y e1;rw[hargs x (by rw[e1];simp),hargs y (by rw[e1];simp)]
    ·rfl
   ·simp only[vop];split
    ·rename_i x y e1;rw[hargs x (by rw[e1];simp),hargs y (by rw[e1];simp)]
    ·rfl
  |value f=>rfl
  |invoke r m=>rfl
 all_goals first|rfl|(simp_all [vop];done)
theorem jj4 {P:Program} {T T':Sl} {h:aB} {o:Oper} (he:∀x∈o.op.operands,opd T x=opd T' x):eI P T h o=eI P T' h o:=by
 obtain⟨dst,op,type,pos,after,guard⟩:=o;cases op<;>simp only[Op.operands]at he
 case buildSlice t n ps=>
  simp only[eI];rw[zl5 (T:=T) (T':=T') fun x hx=>he x.2 (by simpa using⟨x.1,by simpa using hx⟩)]
 case call c=>
  obtain⟨callee,args,ats⟩:=c;simp only[Call.operands]at he;cases callee with
  |builtin b=>
   have hargs:∀x∈args.toList,opd T x=opd T' x:=fun x hx=>he x (by simpa using hx);cases b<;>(try rfl)
   ·simp only[eI];split
    ·rename_i x y t t' e1 e2;rw[hargs x (by rw[e1];simp),hargs y (by rw[e1];simp)]
    ·rfl
   ·simp only[eI];split
    ·rename_i x y t t' e1 e2;rw[hargs x (by rw[e1];simp),hargs y (by rw[e1];simp)]
    ·rfl
   ·simp only[eI];split
    ·rename_i x e1;rw[hargs x (by rw[e1];simp)]
    ·rfl
   ·simp only[eI];split
    ·rename_i x y t t' e1 e2;rw[hargs x (by rw[e1];simp),hargs y (by rw[e1];simp)]
    ·rfl
  |value f=>
   cases f<;>first|rfl|skip
   rename_i f;have hargs:∀x∈args.toList,opd T x=opd T' x:=fun x hx=>he x (by simp;exact .inr (by simpa using hx));simp only[eI];split
   ·split
    ·rename_i x e1;rw[hargs x (by rw[e1];simp)]
    ·rfl
   ·rfl
  |invoke r m=>rfl
 all_goals first|rfl|(simp_all [eI];done)
theorem jj5 {P:Program} {T T':Sl} {h:aB} {o:Oper} {K:V→aB→Prop} (he:∀x∈o.op.operands,opd T x=opd T' x):cP P T h o K=cP P T' h o K:=by
 unfold cP;split
 ·rename_i f args ats ho;rw[ho]at he;simp only[Op.operands,Call.operands]at he;rw[he f (by simp),zY (T:=T) (T':=T') fun x hx=>he x (by simp;exact .inr (by simpa using hx))]
 ·rename_i op t x yt ho;rw[ho]at he;rw[he x (by simp[Op.operands])]
 ·rfl
theorem zO2 {P:Program} {T T':Sl} {h:aB} {o:Oper} {K:V→aB→Prop} (he:∀x∈o.op.operands,opd T x=opd T' x):eZ P T h o K=eZ P T' h o K:=by
 unfold eZ;rw[zl6 he,jj4 he,jj5 he]
def fI (ops:List Oper) (o:Oper) (T T':Sl):Prop:=(∀x∈o.op.operands,opd T x=opd T' x)∧∀g b,o.guard=some (g,b)→kT ops T g=kT ops T' g
theorem fI.symm {ops:List Oper} {o:Oper} {T T':Sl} (h:fI ops o T T'):fI ops o T' T:=⟨fun x hx=>(h.1 x hx).symm,fun g b hg=>(h.2 g b hg).symm⟩
theorem jj6 {ops:List Oper} {T T':Sl} (h:∀i,T.lookup i=T'.lookup i) (g:Nat):kT ops T g=kT ops T' g:=by
 unfold kT;split
 ·split
  ·rw[h]
  ·rfl
 ·rfl
theorem fI.all {ops:List Oper} {o:Oper} {T T':Sl} (h:∀i,T.lookup i=T'.lookup i):fI ops o T T':=⟨fun x _=>jj3 h x,fun g _ _=>jj6 h g⟩
theorem fI.put {ops:List Oper} {o:Oper} {T:Sl} {d:Option Tmp} {v:V} (h:∀t,d=some t→t∉o.looksAt ops.toArray):fI ops o (bP T d v) T:=by
 cases d with
 |none=>exact⟨fun _ _=>rfl,fun _ _ _=>rfl⟩
 |some t=>
  have ht:=h t rfl;have hne:∀i,i≠t→(bP T (some t) v).lookup i=T.lookup i:=by
   intro i hi;show ki4 i ((t,v)::T)=_;rw[kl1];have:(i == t)=false:=by simpa using hi
   rw[this]
  refine⟨fun x hx=>?_,fun g b hg=>?_⟩
  ·cases x with
   |tmp i=>
    refine hne i fun e=>ht ?_;subst e;exact List.mem_append_left _ (List.mem_filterMap.2 ⟨.tmp i,by simpa using hx,rfl⟩)
   |_=>rfl
  ·unfold kT;split
   ·rename_i og hog;split
    ·rename_i dg hdg;rw[hne dg];intro e;subst e;refine ht (List.mem_append_right _ ?_);rw[hg];simp[hog,hdg]
    ·rfl
   ·rfl
theorem rQ {P:Program} {ops:List Oper} {o:Oper} {T T':Sl} {h:aB} {K K':Sl→aB→Prop} (ha:fI ops o T T') (hk:∀v h',K (bP T o.dst v) h'→K' (bP T' o.dst v) h') (hv:vgo P ops o T h K):vgo P ops o T' h K':=by
 unfold vgo at *;split at hv
 ·rw[zO2 ha.1]at hv;exact tK hv hk
 ·rename_i g want hg;rw[ha.2 _ _ hg]at hv;split at hv
  ·refine⟨fun e=>?_,fun e=>hk _ _ (hv.2 e)⟩;have:=hv.1 e;rw[zO2 ha.1]at this;exact tK this hk
  ·exact hv
def ro:Op→Bool
 |.move _|.assign _|.pick ..|.build ..|.load ..|.nilCheck _|.unOp ..|.convert ..|.fieldAddr ..|.field ..|.indexAddr ..|.index ..|.extract ..|.makeFunc ..|.slice ..=>true
 |.binOp _ _ _ y _=>match y with
  |.const (.slice none 0 0)=>false
  |_=>true
 |.call { callee:=.builtin b,.. }=>match b with
  |.len|.max|.min=>true
  |_=>false
 |_=>false
theorem jj7 {P:Program} {T:Sl} {h h':aB} {o:Oper} {v:V} (hr:ro o.op=true) (hv:vop P T h o=some (v,h')):h'=h:=by
 unfold vop at hv;split at hv<;>rename_i ho<;>first|(cases hv;done)|(rw[ho]at hr;simp[ro]at hr;done)|skip
 all_goals ((repeat' split at hv)<;>first|(cases hv;done)|(cases hv;rfl))
theorem jj8 {P:Program} {T:Sl} {h:aB} {o:Oper} (hr:ro o.op=true):eI P T h o=none:=by
 unfold eI;split<;>rename_i ho<;>first|rfl|(rw[ho]at hr;simp[ro]at hr;done)
theorem jj9 {P:Program} {T:Sl} {h:aB} {o:Oper} {K:V→aB→Prop} (hr:ro o.op=true):¬cP P T h o K:=by
 unfold cP;split<;>rename_i ho<;>first|exact id|(rw[ho]at hr;simp[ro]at hr;done)
theorem zl7 {P:Program} {T:Sl} {h:aB} {o:Oper} {K:V→aB→Prop} (hr:ro o.op=true):eZ P T h o K↔∃v,vop P T h o=some (v,h)∧K v h:=by
 unfold eZ;cases hv:vop P T h o with
 |some x=>
  obtain⟨v,h'⟩:=x;have:=jj7 hr hv;subst this;exact⟨fun hk=>⟨v,rfl,hk⟩,fun⟨v',e,hk⟩=>by cases e;exact hk⟩
 |none=>
  rw[jj8 hr];exact⟨fun hk=>(jj9 hr hk).elim,fun⟨v',e,_⟩=>by cases e⟩
def Ran (P:Program) (ops:List Oper) (o:Oper) (T:Sl) (h:aB) (v:V):Prop:=
 match o.guard with
 |none=>vop P T h o=some (v,h)
 |some (g,want)=>match kT ops T g with
  |some b=>(b=some want→vop P T h o=some (v,h))∧(b≠some want→v=rP)
  |none=>False
theorem kD {P:Program} {ops:List Oper} {o:Oper} {T:Sl} {h:aB} {K:Sl→aB→Prop} (hr:ro o.op=true):vgo P ops o T h K↔∃v,Ran P ops o T h v∧K (bP T o.dst v) h:=by
 unfold vgo Ran;cases hg:o.guard with
 |none=>exact zl7 hr
 |some gw=>
  obtain⟨g,want⟩:=gw;simp only;cases hb:kT ops T g with
  |none=>simp
  |some b=>
   simp only;constructor
   ·rintro⟨h1,h2⟩;by_cases e:b=some want
    ·obtain⟨v,a,c⟩:=(zl7 hr).1 (h1 e);exact⟨v,⟨fun _=>a,fun hn=>absurd e hn⟩,c⟩
    ·exact⟨rP,⟨fun he=>absurd he e,fun _=>rfl⟩,h2 e⟩
   ·rintro⟨v,⟨h1,h2⟩,hk⟩;exact⟨fun e=>(zl7 hr).2 ⟨v,h1 e,hk⟩,fun e=>by rw[←h2 e];exact hk⟩
def heapless (P:Program):Op→Bool
 |.convert _ t _=>match ti P t with
  |some j=>match j.kd with
   |.int _=>true
   |.str=>true
   |_=>false
  |none=>false
 |.move _|.assign _|.pick ..|.build ..|.unOp ..|.field ..|.index ..|.extract ..|.makeFunc ..=>true
 |.binOp _ t _ y _=>match y with
  |.const (.slice none 0 0)=>false
  |_=>match ti P t with
   |some i=>match i.kd with
    |.ptr=>false
    |_=>true
   |none=>false
 |.call { callee:=.builtin b,.. }=>match b with
  |.max|.min=>true
  |_=>false
 |_=>false
theorem jk0 {h h':aB} {kd:TK} {op:BinOp} {u v:V} (hk:kd≠.ptr):gZ h kd op u v=gZ h' kd op u v:=by
 unfold gZ;split<;>first|rfl|skip
 cases kd<;>first|rfl|exact absurd rfl hk
theorem jk1 {P:Program} {h h':aB} {t:TypeId} {kd:TK} {op:BinOp} {u v:V} (hk:kd≠.ptr):fX P h t kd op u v=fX P h' t kd op u v:=by
 unfold fX;rw[jk0 (h':=h') hk];split
 ·rfl
 ·cases kd<;>first|rfl|exact absurd rfl hk
theorem zO3 {P:Program} {T:Sl} {h h2:aB} {o:Oper} {v:V} (hr:heapless P o.op=true) (hv:vop P T h o=some (v,h)):vop P T h2 o=some (v,h2):=by
 obtain⟨dst,op,type,pos,after,guard⟩:=o;cases op<;>simp only[heapless]at hr<;>try (cases hr;done)
 case binOp op t x y yt=>
  split at hr
  ·cases hr
  ·split at hr
   ·rename_i i hi;split at hr
    ·cases hr
    ·rename_i hk;have hb:∀u v,fX P h t i.kd op u v=fX P h2 t i.kd op u v:=fun u v=>jk1 fun e=>hk e;simp only[vop,hi]at hv ⊢;cases hx:opd T x<;>cases hy:opd T y<;>simp only[hx,hy]at hv ⊢<;>first|(cases hv;done)|skip
     rw[hb]at hv;split at hv
     ·cases hv;simp_all
     ·cases hv
   ·cases hr
 case convert s t x=>
  split at hr
  ·rename_i j hj;simp only[vop,hj]at hv ⊢;generalize opd T x=ox at hv ⊢;generalize ti P s=os at hv ⊢;rcases os with _|os
   ·cases hv
   rcases ox with _|⟨l|_|_⟩<;>first|(cases hv;done)|skip
   cases l<;>first|(cases hv;done)|skip
   ·rename_i d;cases d<;>first|(cases hv;done)|skip
    ·simp only at hv ⊢;split at hv<;>first|(cases hv;done)|(cases hv;simp_all)
    ·simp only at hv ⊢;split at hv<;>first|(cases hv;done)|(cases hv;simp_all)
   ·simp only at hv;split at hr<;>rename_i e4<;>first|(cases hr;done)|(simp only[e4]at hv;cases hv)
  ·cases hr
 case makeFunc fn first caps=>
  cases fn<;>simp only[vop]at hv ⊢<;>first|(cases hv;done)|skip
  (repeat' split at hv)<;>first|(cases hv;done)|(cases hv;simp_all)
 case call c=>
  obtain⟨callee,args,ats⟩:=c;cases callee with
  |builtin b=>
   cases b<;>simp only at hr<;>(try (cases hr;done))
   all_goals
    simp only[vop]at hv ⊢;split at hv
    ·rename_i x y e1
     try simp only[e1]
     split at hv
     ·rename_i k a k' b e2 e3
      try simp only[e2,e3]
      cases hv;rfl
     ·cases hv
    ·cases hv
  |value f=>cases hr
  |invoke r m=>cases hr
 all_goals (simp only[vop]at hv ⊢;(repeat' split at hv)<;>first|(cases hv;done)|(cases hv;simp_all;done))
theorem Ran.heapless {P:Program} {ops:List Oper} {T:Sl} {h h2:aB} {o:Oper} {v:V} (hr:Vt.heapless P o.op=true) (hv:Ran P ops o T h v):Ran P ops o T h2 v:=by
 unfold Ran at *;split at hv
 ·exact zO3 hr hv
 ·split at hv
  ·exact⟨fun e=>zO3 hr (hv.1 e),hv.2⟩
  ·exact hv
theorem Ran.agree {P:Program} {ops:List Oper} {T T':Sl} {h:aB} {o:Oper} {v:V} (ha:fI ops o T T') (hv:Ran P ops o T h v):Ran P ops o T' h v:=by
 unfold Ran at *;split at hv
 ·rw[←zl6 ha.1];exact hv
 ·rename_i g want hg;rw[←ha.2 _ _ hg];split at hv
  ·rw[←zl6 ha.1];exact hv
  ·exact hv
abbrev gL:=List (Nat×(aB→Prop))
def dM (P:Program) (ops:List Oper) (ob:Nat→List Nat):List Nat→gL→Sl→aB→(Sl→aB→Prop)→Prop
 |[],_,T,h,K=>K T h
 |i::R,W,T,h,K=>match ops[i]? with
  |none=>False
  |some o=>
   if ro o.op=true then vgo P ops o T h fun T' h'=>dM P ops ob R ((i,fun h2=>vgo P ops o T h2 fun T2 _=>T2=T')::W) T' h' K
   else vgo P ops o T h fun T' h'=>(∀x∈W,x.1∈ob i→x.2 h')∧dM P ops ob R W T' h' K
variable {P:Program} {ops:List Oper} {ob:Nat→List Nat}
def fZ (T T':Sl):Prop:=∀i,T.lookup i=T'.lookup i
theorem fZ.put {T T':Sl} (h:fZ T T') (d:Option Tmp) (v:V):fZ (bP T d v) (bP T' d v):=by
 cases d with
 |none=>exact h
 |some d=>intro i;show ki4 i ((d,v)::T)=ki4 i ((d,v)::T');simp only[kl1,h i]
theorem zZ {T:Sl} {d e:Option Tmp} (u v:V) (hne:∀t,d=some t→e≠some t):fZ (bP (bP T d v) e u) (bP (bP T e u) d v):=by
 cases d with
 |none=>intro i;rfl
 |some d=>cases e with
  |none=>intro i;rfl
  |some e=>
   intro i;show ki4 i ((e,u)::(d,v)::T)=ki4 i ((d,v)::(e,u)::T);have hde:e≠d:=fun h=>hne d rfl (by rw[h]);simp only[kl1];by_cases h1:i=e
   ·subst h1;have:(i == d)=false:=by simpa using hde
    simp[this]
   ·have:(i == e)=false:=by simpa using h1
    simp[this]
def WLe (W W':gL):Prop:=∀x'∈W',∃x∈W,x.1=x'.1∧∀h,x.2 h→x'.2 h
theorem WLe.refl (W:gL):WLe W W:=fun x hx=>⟨x,hx,rfl,fun _ h=>h⟩
theorem WLe.cons {W W':gL} (h:WLe W W') {i:Nat} {p p':aB→Prop} (hp:∀h,p h→p' h):WLe ((i,p)::W) ((i,p')::W'):=by
 intro x hx;rcases kg9.1 hx with rfl|hx
 ·exact⟨(i,p),by simp,rfl,hp⟩
 ·obtain⟨y,a,b,c⟩:=h x hx;exact⟨y,by simp[a],b,c⟩
theorem zl8 {T T':Sl} {d:Option Tmp} {u v:V} (h:bP T d u=bP T d v):bP T' d u=bP T' d v:=by
 cases d with
 |none=>rfl
 |some d=>
  have:(d,u)::T=(d,v)::T:=h;simp at this;rw[this]
theorem tL {o:Oper} {T T':Sl} {h2:aB} {v:V} (ha:fI ops o T T') (h:vgo P ops o T h2 fun T2 _=>T2=bP T o.dst v):vgo P ops o T' h2 fun T2 _=>T2=bP T' o.dst v:=
 rQ ha (fun _ _ e=>zl8 e) h
theorem za0:∀(R:List Nat) {W W':gL} {T T':Sl} {h:aB} {K K':Sl→aB→Prop},fZ T T'→WLe W W'→(∀T T' h,fZ T T'→K T h→K' T' h)→dM P ops ob R W T h K→dM P ops ob R W' T' h K'
 |[],W,W',T,T',h,K,K',hT,_,hK,hv=>hK _ _ _ hT hv
 |i::R,W,W',T,T',h,K,K',hT,hW,hK,hv=>by
  unfold dM at hv ⊢;cases ho:ops[i]? with
  |none=>simp[ho]at hv
  |some o=>
   simp only[ho]at hv ⊢;have ha:fI ops o T T':=fI.all hT;split
   ·rename_i hr;rw[if_pos hr]at hv;exact rQ ha (fun v h' hv'=>za0 R (hT.put _ _) (hW.cons fun h2 hp=>tL ha hp) hK hv') hv
   ·rename_i hr;rw[if_neg hr]at hv;refine rQ ha (fun v h' hv'=>⟨fun x hx hm=>?_,za0 R (hT.put _ _) hW hK hv'.2⟩) hv;obtain⟨y,a,b,c⟩:=hW x hx;exact c _ (hv'.1 y a (by rw[b];exact hm))
def nX (P:Program) (ops:List Oper) (ob:Nat→List Nat) (i j:Nat):Bool:=match ops[i]?,ops[j]? with
 |some x,some y=>ro x.op&&x.apart ops.toArray y&&(ro y.op||heapless P x.op||(ob j).contains i)
 |_,_=>false
theorem jk2 {i j:Nat} {R:List Nat} {W:gL} {T:Sl} {h:aB} {K:Sl→aB→Prop} (hs:nX P ops ob i j=true) (hK:∀T T' h,fZ T T'→K T h→K T' h)
  (hv:dM P ops ob (i::j::R) W T h K):dM P ops ob (j::i::R) W T h K:=by
 unfold nX at hs;split at hs
 ·rename_i x y hx hy;simp only[Bool.and_eq_true,Bool.or_eq_true,List.contains_eq_mem,decide_eq_true_eq]at hs;obtain⟨⟨hrx,hap⟩,hs⟩:=hs;obtain⟨a1,a2,a3⟩:=Oper.apart_spec hap;rw[dM]at hv;simp only[hx,if_pos hrx]at hv;obtain⟨v,hran,hv⟩:=(kD hrx).1 hv;have ay:fI ops y (bP T x.dst v) T:=fI.put a1;have ax:∀u,fI ops x (bP T y.dst u) T:=fun u=>fI.put a3;have wx:∀u h2,(vgo P ops x T h2 fun T2 _=>T2=bP T x.dst v)→vgo P ops x (bP T y.dst u) h2 fun T2 _=>T2=bP (bP T y.dst u) x.dst v:=fun u h2 hp=>tL (ax u).symm hp;rw[dM]at hv ⊢;simp only[hy]at hv ⊢;by_cases hry:ro y.op=true
  ·rw[if_pos hry]at hv ⊢;obtain⟨u,hru,hv⟩:=(kD hry).1 hv;refine(kD hry).2 ⟨u,hru.agree ay,?_⟩;rw[dM];simp only[hx,if_pos hrx];refine(kD hrx).2 ⟨v,hran.agree (ax u).symm,?_⟩;refine za0 R (zZ u v fun t ht=>a2 t ht) ?_ hK hv;intro p hp;rcases kg9.1 hp with rfl|hp
   ·exact⟨_,kk4 _ kn9,rfl,fun h2 hp=>wx u h2 hp⟩
   rcases kg9.1 hp with rfl|hp
   ·exact⟨_,kn9,rfl,fun h2 hp=>tL ay hp⟩
   ·exact⟨p,kk4 _ (kk4 _ hp),rfl,fun _ h=>h⟩
  ·rw[if_neg hry]at hv ⊢;refine rQ ay (fun u h2 hv'=>⟨fun p hp hm=>hv'.1 p (kk4 _ hp) hm,?_⟩) hv;have hx2:∃v2,Ran P ops x T h2 v2∧bP T x.dst v2=bP T x.dst v:=by
    rcases hs with(hs|hs)|hs
    ·exact absurd hs hry
    ·exact⟨v,hran.heapless hs,rfl⟩
    ·have:vgo P ops x T h2 fun T2 _=>T2=bP T x.dst v:=hv'.1 _ kn9 hs;exact(kD hrx).1 this
   obtain⟨v2,hx2,e2⟩:=hx2;rw[dM];simp only[hx,if_pos hrx];refine(kD hrx).2 ⟨v2,hx2.agree (ax u).symm,?_⟩;rw[zl8 (T':=bP T y.dst u) e2];refine za0 R (zZ u v fun t ht=>a2 t ht) ?_ hK hv'.2;exact(WLe.refl W).cons fun h2 hp=>wx u h2 hp
 ·cases hs
end Go.Vt
