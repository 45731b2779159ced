import Derived.Test.YtdabfkmhkoppcaaGreatDoorVtRq
import Derived.Test.YtdabfkmhkoppcaaGreatDoorVtEnvE
import Derived.Test.YtdabfkmhkoppcaaGreatDoorCards
import Derived.Test.YtdabfkmhkoppcaaGreatDoorTie
import Derived.LaidMore
import Derived.LaidHandle
import Derived.Deep.DeepWitnessRowRef
import Derived.SevenTiedAt
set_option linter.all false
set_option maxHeartbeats 4000000
set_option maxRecDepth 100000
open List renaming append_nil→ki0
open Go.Proofs.Tryz renaming prog→kd5
namespace Go.Proofs.YtdabfkmhkoppcaaGreatDoor
open Go.ChangeShapes Go.WideShapes Go.ChangeAt Go.RowKit Go.Vt Go.Vt.Tryz
noncomputable def zi0 (os:Os):World:=World.doorLaid kd5 24 os
theorem ka7 (os:Os) (args:Array Value):laidMetH kd5 Rows.envRenamesUptoRow.laid ((zi0 os).forCall (fun _ _=>0) ⟨#[],args,[]⟩).memory:=
 laidMetH_of_parts3 (fuel:=8) (laidMet_of_run' 8 (by kernel_rfl) (by kernel_rfl)) (by kernel_rfl) (by kernel_rfl)
theorem ka8 (os:Os) {H:Type} (enc:TypeId×Value→H) :
  (Rows.OpenSpec.upto Rows.envRenamesSpec).preRow enc kd5 Tryz.f7 Rows.envRenamesUptoRow.domain false Rows.envRenamesUptoRow.laid ((zi0 os).forCall (fun _ _=>0) ⟨#[],#[.agg #[.slice none 0 0,.slice none 0 0,.slice none 0 0,.slice none 0 0,.slice none 0 0,.slice none 0 0],.agg #[.slice none 0 0,.slice none 0 0,.slice none 0 0,.slice none 0 0,.slice none 0 0,.slice none 0 0],.slice none 0 0,.slice none 0 0],[]⟩).memory #[.agg #[.slice none 0 0,.slice none 0 0,.slice none 0 0,.slice none 0 0,.slice none 0 0,.slice none 0 0],.agg #[.slice none 0 0,.slice none 0 0,.slice none 0 0,.slice none 0 0,.slice none 0 0,.slice none 0 0],.slice none 0 0,.slice none 0 0]:=by
 have hw:(DataW.whole enc kd5 ((zi0 os).forCall (fun _ _=>0) ⟨#[],#[.agg #[.slice none 0 0,.slice none 0 0,.slice none 0 0,.slice none 0 0,.slice none 0 0,.slice none 0 0],.agg #[.slice none 0 0,.slice none 0 0,.slice none 0 0,.slice none 0 0,.slice none 0 0,.slice none 0 0],.slice none 0 0,.slice none 0 0],[]⟩).memory Tryz.f7.params.toList (Rows.OpenSpec.upto Rows.envRenamesSpec).vars false (#[.agg #[.slice none 0 0,.slice none 0 0,.slice none 0 0,.slice none 0 0,.slice none 0 0,.slice none 0 0],.agg #[.slice none 0 0,.slice none 0 0,.slice none 0 0,.slice none 0 0,.slice none 0 0,.slice none 0 0],.slice none 0 0,.slice none 0 0]:Array Value).toList 8).map (fun x=>(x.1,x.2.1)) =
   some ([.agg [.nil,.agg [.nil,.nil,.nil,.nil,.nil]],.agg [.nil,.agg [.nil,.nil,.nil,.nil,.nil]],.nil,.nil],[]):=by kernel_rfl
 obtain⟨⟨x1,x2,x3⟩,hx,hx1⟩:=Option.map_eq_some_iff.1 hw;simp only[Prod.mk.injEq]at hx1;obtain⟨rfl,rfl⟩:=hx1;exact OpenSpec.preRow_of_cond 8 hx (by kernel_rfl) (fun k hk=>by cases hk;kernel_rfl) (by kernel_rfl) (ka7 os _)
theorem ka9 (H:Type) (enc:TypeId×Value→H) (W:World) (base:Nat) (args:Array Value) (ds gs:List (DataW H)) (before:List MemPlace)
  (hval0:∀(j:Nat) t v,Tryz.f7.params[j]?=some t→args[j]?=some v→Value.okWide kd5 W .any base t v)
  (hW:DataW.Whole enc kd5 Tryz.f7.params.toList Rows.envRenamesSpec.vars false W args.toList ds gs before) (hk:Rows.uptoSmall H (ds++gs)=true) :
  Calls kd5 7 args W fun e W'=>∃v,e = .returned v∧Rows.envRenamesSpec.post enc kd5 Tryz.f7 false true false false W args v W':=by
 have hW':=hW;obtain⟨p,q,hA0,hV,rfl,hfz,hnd⟩:=hW;have hA:DataW.TrodAll enc kd5 W 0 (fun _=>true) true Tryz.f7.params.toList args.toList ds p:=hA0;rw[Tryz.params7]at hA;obtain⟨v0,vs0,d0,ds0,p0,q0,hargs,rfl,rfl,⟨fu0,h0⟩,t0⟩:=trodAll_cons hA;obtain⟨v1,vs1,d1,ds1,p1,q1,rfl,rfl,rfl,⟨fu1,h1⟩,t1⟩:=trodAll_cons t0;obtain⟨v2,vs2,d2,ds2,p2,q2,rfl,rfl,rfl,⟨fu2,h2⟩,t2⟩:=trodAll_cons t1;obtain⟨v3,vs3,d3,ds3,p3,q3,rfl,rfl,rfl,⟨fu3,h3⟩,t3⟩:=trodAll_cons t2;obtain⟨rfl,rfl,rfl⟩:=trodAll_nil t3;obtain rfl:args=#[v0,v1,v2,v3]:=Array.toList_inj.1 hargs;obtain⟨rfl,rfl⟩:=trodVars_none hV;have hb:Rows.uptoBulk d0+Rows.uptoBulk d1+Rows.uptoBulk d2+Rows.uptoBulk d3≤1048576:=by
  have h:=of_decide_eq_true hk;simp only[ki0,Rows.uptoBulkAll]at h;omega
 obtain⟨l0,e0,s0⟩:=(fun fu=>zh8 (fuel:=fu) (fun k _=>je0 k)) _ _ ⟨_,_,h0⟩;have r0:=je2 (by decide) h0 e0 (by obtain⟨_,⟨_,_,_,_,_⟩⟩:=l0;simp[sW,aA]);obtain⟨l1,e1,s1⟩:=(fun fu=>zh8 (fuel:=fu) (fun k _=>je0 k)) _ _ ⟨_,_,h1⟩;have r1:=je2 (by decide) h1 e1 (by obtain⟨_,⟨_,_,_,_,_⟩⟩:=l1;simp[sW,aA]);obtain⟨l2,e2,s2⟩:=zh7 _ _ ⟨_,_,h2⟩;have r2:=je3 (by decide) h2 e2 (zQ6 (by kernel_rfl) (hval0 2 85 v2 (by rw[Tryz.params7];rfl) rfl));obtain⟨l3,e3,s3⟩:=zh7 _ _ ⟨_,_,h3⟩;have r3:=je3 (by decide) h3 e3 (zQ6 (by kernel_rfl) (hval0 3 85 v3 (by rw[Tryz.params7];rfl) rfl));clear hA0 hval0;simp only[ki0]at hW';have hlt:=hW'.lt;have z0:abq l0≤1048576:=by omega
 have z1:abq l1≤1048576:=by omega
 have z2:1+l2.length≤1048576:=by
  have:1+l2.length≤Rows.uptoBulk d2:=s2;omega
 have z3:1+l3.length≤1048576:=by
  have:1+l3.length≤Rows.uptoBulk d3:=s3;omega
 unfold abq at z0 z1;obtain⟨li,st⟩:=l0;obtain⟨lj,su⟩:=l1;simp only at z0 z1;have hq:=jd2 st;have hr:=jd2 su;have vc:=j94 li lj l2 l3 st su (by omega) (by omega) (hq.2 (by omega)) (by omega) (by omega) (hr.2 (by omega)) (by omega) (by omega);have hcall:=vc.2 W pl0 #[v0,v1,v2,v3] (ka4 W) rfl (fun j v x hj hx=>by
  match j,hj,hx with
  |0,hj,hx=>simp at hj hx;subst hj;subst hx;exact r0
  |1,hj,hx=>simp at hj hx;subst hj;subst hx;exact r1
  |2,hj,hx=>simp at hj hx;subst hj;subst hx;exact r2
  |3,hj,hx=>simp at hj hx;subst hj;subst hx;exact r3
  |_+4,hj,_=>simp at hj)
 refine(callsIn_wide.1 hcall).mono fun e W' ⟨r,x,h',μ',he,hp,Hr,hx,g⟩=>?_;obtain⟨rfl,rfl⟩:=hp;have hxb:x = .bool true:=by
  cases hx with
  |one _ hl=>cases hl with|d hd=>cases hd;rfl
 subst hxb;have hb:=ka5 g;refine⟨_,he,ka6 (pa:=p0++(p1++(p2++(p3++([]))))) (pv:=[]) hW' hb (fun _ _ _=>trodAll_mk1 (shut_bool Tryz.underlying4 true)) (fun sp hsp=>?_) (fun _ _=>rfl) (by simp) ?_⟩
 ·refine zh9 ?_ (zh9 ?_ (zh9 ?_ (zh9 ?_ (trodAll_mk0))))
  ·exact WideElems.Trod_stays kd4 (by kernel_rfl) (of_decide_eq_true (by kernel_rfl)) ⟨_,h0⟩ (fun x hx=>hb.same (hlt x (by simp[hx]))) (fun x hx=>hsp x (by simp[hx]))
  ·exact WideElems.Trod_stays kd4 (by kernel_rfl) (of_decide_eq_true (by kernel_rfl)) ⟨_,h1⟩ (fun x hx=>hb.same (hlt x (by simp[hx]))) (fun x hx=>hsp x (by simp[hx]))
  ·exact WideElems.Trod_stays kd4 (by kernel_rfl) (of_decide_eq_true (by kernel_rfl)) ⟨_,h2⟩ (fun x hx=>hb.same (hlt x (by simp[hx]))) (fun x hx=>hsp x (by simp[hx]))
  ·exact WideElems.Trod_stays kd4 (by kernel_rfl) (of_decide_eq_true (by kernel_rfl)) ⟨_,h3⟩ (fun x hx=>hb.same (hlt x (by simp[hx]))) (fun x hx=>hsp x (by simp[hx]))
 ·exact ok_one (by kernel_rfl) rfl (okWide_bool_mk Tryz.underlying4 true)
theorem kb0 (os:Os) (started:os.Started) (H:Type) (enc:TypeId×Value→H) (F:Stop.Interp) :
  ReturnsInHanded {} Tryz.checked os 7 .any ((Rows.OpenSpec.upto Rows.envRenamesSpec).preRow enc kd5 Tryz.f7 Rows.envRenamesUptoRow.domain false Rows.envRenamesUptoRow.laid) (((Rows.OpenSpec.upto Rows.envRenamesSpec).at F).post enc kd5 Tryz.f7 false true false false):=by
 refine returnsInHanded_of_row (C:=Tryz.checked) (s:=Rows.OpenSpec.upto Rows.envRenamesSpec) Tryz.own started (by kernel_rfl) Tryz.func7
  (witness_row_atRef (enc:=enc) (C:=Tryz.checked) false (zi0 os) #[.agg #[.slice none 0 0,.slice none 0 0,.slice none 0 0,.slice none 0 0,.slice none 0 0,.slice none 0 0],.agg #[.slice none 0 0,.slice none 0 0,.slice none 0 0,.slice none 0 0,.slice none 0 0,.slice none 0 0],.slice none 0 0,.slice none 0 0] rfl (by kernel_rfl) (by kernel_rfl) (by kernel_rfl) (ka8 os enc)) ?_
 intro W base args ds gs before hval hW _ hk _ _ _ _;exact ka9 H enc W base args ds gs before hval hW (hk _ rfl)
theorem an {a b:Bool} (h:a=true) (g:b=true):(a&&b)=true:=by rw[h,g];rfl
theorem kb1:joinedFacts Tryz.pinned.checked.prog 7 Tryz.f7 (Rows.OpenSpec.upto Rows.envRenamesSpec).bare Rows.envRenamesUptoRow=true:=by
 unfold joinedFacts;refine an (an (an (an (an (an (an (an (an (an (an (an (an (an (an (an (an (an (an (an (an (an (an (an (an (an (an (an (an (an (an ?_ ?_) ?_) ?_) ?_) ?_) ?_) ?_) ?_) ?_) ?_) ?_) ?_) ?_) ?_) ?_) ?_) ?_) ?_) ?_) ?_) ?_) ?_) ?_) ?_) ?_) ?_) ?_) ?_) ?_) ?_) ?_;all_goals
  as_aux_lemma=>kernel_rfl
theorem envRenames_holds:Rows.EnvRenamesUptoSaid:=
 OpenClaim.holds_of_cond 7 Tryz.f7 rfl rfl rfl rfl rfl rfl rfl ⟨rfl,rfl,rfl,rfl,rfl⟩ rfl rfl rfl rfl rfl (by kernel_rfl) Tryz.func7 kb1
  (of_decide_eq_true (by kernel_rfl)) (by unfold Func.isWrapper;first|(rw[if_pos (by decide +kernel)];kernel_rfl)|(rw[if_neg (by decide +kernel)];exact⟨rfl,rfl⟩))
  (fun os started H enc _ F=>by rw[OpenClaim.pre_eq_preRow];exact kb0 os started H enc F)
theorem envRenames_card:Rows.EnvRenamesUptoCardSaid:=
 Claim7.holds_tied_plain_at .later [] [.data,.data,.data] true (true,"fe5f35bacfe5e41cd441d2f482278a84d06049a93a0b4c54af26666c9d0036e6") false
  envRenames_holds (fun _ h=>by cases h) (by kernel_rfl) (fun _ h=>by cases h) envRenamesUpto_row_tie rfl ⟨rfl,rfl⟩ (by kernel_rfl) rfl
  (fun f fn hf hfn=>by
   obtain rfl:f=7:=Option.some.inj ((show kd5.funcNamed "wafer/waferlaw13.EnvRenames" = some 7 by kernel_rfl).symm.trans hf) |>.symm;obtain rfl:fn=Tryz.f7:=(Option.some.inj (Tryz.func7.symm.trans hfn)).symm;exact⟨by kernel_rfl,fun j t ht=>by
    rw[Tryz.params7]at ht;have hm:t∈[87,87,85,85]:=by simpa using Array.mem_of_getElem? ht
    have hall:([87,87,85,85].all fun u=>!kd5.wantsStandIn u)=true:=by kernel_rfl
    exact(show kd5.wantsStandIn t=false by simpa using List.all_eq_true.1 hall t hm)⟩)
  (by kernel_rfl)
#print axioms envRenames_card
end Go.Proofs.YtdabfkmhkoppcaaGreatDoor
