import Derived.Test.YtdabfkmhkoppcaaGreatDoorVtRk
import Derived.Test.YtdabfkmhkoppcaaGreatDoorVtTF
import Derived.Test.YtdabfkmhkoppcaaGreatDoorCards
import Derived.Test.YtdabfkmhkoppcaaGreatDoorTie
import Derived.LaidMore
import Derived.LaidHandle
import Derived.Deep.DeepWitnessRowRef
import Derived.SevenTiedAt
set_option linter.all false
set_option maxHeartbeats 4000000
set_option maxRecDepth 100000
open List renaming append_nil→ku3
open Go.Proofs.Tryz renaming prog→kp8
namespace Go.Proofs.YtdabfkmhkoppcaaGreatDoor
open Go.ChangeShapes Go.WideShapes Go.ChangeAt Go.RowKit Go.Vt Go.Vt.Tryz
noncomputable def zm6 (os:Os):World:=World.doorLaid kp8 24 os
theorem km9 (os:Os) (args:Array Value):laidMetH kp8 Rows.envCanonUptoRow.laid ((zm6 os).forCall (fun _ _=>0) ⟨#[],args,[]⟩).memory:=
 laidMetH_of_parts3 (fuel:=8) (laidMet_of_run' 8 (by kernel_rfl) (by kernel_rfl)) (by kernel_rfl) (by kernel_rfl)
theorem kn0 (os:Os) {H:Type} (enc:TypeId×Value→H) :
  (Rows.OpenSpec.upto Rows.envCanonSpec).preRow enc kp8 Tryz.f8 Rows.envCanonUptoRow.domain false Rows.envCanonUptoRow.laid ((zm6 os).forCall (fun _ _=>0) ⟨#[],#[.agg #[.slice none 0 0,.slice none 0 0,.slice none 0 0,.slice none 0 0,.slice none 0 0,.slice none 0 0],.int .i64 0],[]⟩).memory #[.agg #[.slice none 0 0,.slice none 0 0,.slice none 0 0,.slice none 0 0,.slice none 0 0,.slice none 0 0],.int .i64 0]:=by
 have hw:(DataW.whole enc kp8 ((zm6 os).forCall (fun _ _=>0) ⟨#[],#[.agg #[.slice none 0 0,.slice none 0 0,.slice none 0 0,.slice none 0 0,.slice none 0 0,.slice none 0 0],.int .i64 0],[]⟩).memory Tryz.f8.params.toList (Rows.OpenSpec.upto Rows.envCanonSpec).vars false (#[.agg #[.slice none 0 0,.slice none 0 0,.slice none 0 0,.slice none 0 0,.slice none 0 0,.slice none 0 0],.int .i64 0]:Array Value).toList 8).map (fun x=>(x.1,x.2.1)) =
   some ([.agg [.nil,.agg [.nil,.nil,.nil,.nil,.nil]],.lit (.int .i64 0)],[]):=by kernel_rfl
 obtain⟨⟨x1,x2,x3⟩,hx,hx1⟩:=Option.map_eq_some_iff.1 hw;simp only[Prod.mk.injEq]at hx1;obtain⟨rfl,rfl⟩:=hx1;exact OpenSpec.preRow_of_cond 8 hx (by kernel_rfl) (fun k hk=>by cases hk;kernel_rfl) (by kernel_rfl) (km9 os _)
theorem kn1 (H:Type) (enc:TypeId×Value→H) (W:World) (base:Nat) (args:Array Value) (ds gs:List (DataW H)) (before:List MemPlace)
  (hval0:∀(j:Nat) t v,Tryz.f8.params[j]?=some t→args[j]?=some v→Value.okWide kp8 W .any base t v)
  (hW:DataW.Whole enc kp8 Tryz.f8.params.toList Rows.envCanonSpec.vars false W args.toList ds gs before) (hk:Rows.uptoSmall H (ds++gs)=true) (hla:laidMetH kp8 Rows.envCanonUptoRow.laid W) :
  Calls kp8 8 args W fun e W'=>∃v,e = .returned v∧Rows.envCanonSpec.post enc kp8 Tryz.f8 false true false false W args v W':=by
 have hla2:laidMet kp8 [("math/bits.deBruijn32tab",Rows.laid_math_bits_deBruijn32tab),("math/bits.deBruijn64tab",Rows.laid_math_bits_deBruijn64tab),("internal/strconv.uint64pow10",Rows.laid_internal_strconv_uint64pow10)] W:=by
  rw[Go.MakeChecks.laidMetH_plain _ _ _ (by kernel_rfl)]at hla;exact hla
 have htb:=km3 (by kernel_rfl) hla2;clear hla hla2;have hW':=hW;obtain⟨p,q,hA0,hV,rfl,hfz,hnd⟩:=hW;have hA:DataW.TrodAll enc kp8 W 0 (fun _=>true) true Tryz.f8.params.toList args.toList ds p:=hA0;rw[Tryz.params8]at hA;obtain⟨v0,vs0,d0,ds0,p0,q0,hargs,rfl,rfl,⟨fu0,h0⟩,t0⟩:=trodAll_cons hA;obtain⟨v1,vs1,d1,ds1,p1,q1,rfl,rfl,rfl,⟨fu1,h1⟩,t1⟩:=trodAll_cons t0;obtain⟨rfl,rfl,rfl⟩:=trodAll_nil t1;obtain rfl:args=#[v0,v1]:=Array.toList_inj.1 hargs;obtain⟨rfl,rfl⟩:=trodVars_none hV;have hb:Rows.uptoBulk d0+Rows.uptoBulk d1≤1048576:=by
  have h:=of_decide_eq_true hk;simp only[ku3,Rows.uptoBulkAll]at h;omega
 obtain⟨l0,e0,s0⟩:=(fun fu=>zP6 (fuel:=fu) (fun k _=>km2 k)) _ _ ⟨_,_,h0⟩;have r0:=km5 (by decide) h0 e0 (by obtain⟨_,⟨_,_,_,_,_⟩⟩:=l0;simp[wZ,aA]);obtain⟨l1,e1,s1⟩:=zm4 _ _ ⟨_,_,h1⟩;have r1:=km6 (by decide) h1 e1 (ju4 (by kernel_rfl) (hval0 1 3 v1 (by rw[Tryz.params8];rfl) rfl));clear hA0 hval0;simp only[ku3]at hW';have hlt:=hW'.lt;have z0:abq l0≤1048576:=by omega
 unfold abq at z0;obtain⟨li,st⟩:=l0;simp only at z0;have hq:=kl2 st;have vc:=kl1 li st l1 (by omega) (by omega) (by omega);have hcall:=vc.2 W pl0 #[v0,v1] (km4 htb) rfl (fun j v x hj hx=>by
  match j,hj,hx with
  |0,hj,hx=>simp at hj hx;subst hj;subst hx;exact r0
  |1,hj,hx=>simp at hj hx;subst hj;subst hx;exact r1
  |_+2,hj,_=>simp at hj)
 refine(callsIn_wide.1 hcall).mono fun e W' ⟨r,x,h',μ',he,hp,Hr,hx,g⟩=>?_;obtain⟨rfl,rfl⟩:=hp;have hxb:x = .bool true:=by
  cases hx with
  |one _ hl=>cases hl with|d hd=>cases hd;rfl
 subst hxb;have hb:=km7 g;refine⟨_,he,km8 (pa:=p0++(p1++([]))) (pv:=[]) hW' hb (fun _ _ _=>trodAll_mk1 (shut_bool Tryz.underlying4 true)) (fun sp hsp=>?_) (fun _ _=>rfl) (by simp) ?_⟩
 ·refine jm1 ?_ (jm1 ?_ (trodAll_mk0))
  ·exact WideElems.Trod_stays kp7 (by kernel_rfl) (of_decide_eq_true (by kernel_rfl)) ⟨_,h0⟩ (fun x hx=>hb.same (hlt x (by simp[hx]))) (fun x hx=>hsp x (by simp[hx]))
  ·exact WideElems.Trod_stays kp7 (by kernel_rfl) (of_decide_eq_true (by kernel_rfl)) ⟨_,h1⟩ (fun x hx=>hb.same (hlt x (by simp[hx]))) (fun x hx=>hsp x (by simp[hx]))
 ·exact ok_one (by kernel_rfl) rfl (okWide_bool_mk Tryz.underlying4 true)
theorem kn2 (os:Os) (started:os.Started) (H:Type) (enc:TypeId×Value→H) (F:Stop.Interp) :
  ReturnsInHanded {} Tryz.checked os 8 .any ((Rows.OpenSpec.upto Rows.envCanonSpec).preRow enc kp8 Tryz.f8 Rows.envCanonUptoRow.domain false Rows.envCanonUptoRow.laid) (((Rows.OpenSpec.upto Rows.envCanonSpec).at F).post enc kp8 Tryz.f8 false true false false):=by
 refine returnsInHanded_of_row (C:=Tryz.checked) (s:=Rows.OpenSpec.upto Rows.envCanonSpec) Tryz.own started (by kernel_rfl) Tryz.func8
  (witness_row_atRef (enc:=enc) (C:=Tryz.checked) false (zm6 os) #[.agg #[.slice none 0 0,.slice none 0 0,.slice none 0 0,.slice none 0 0,.slice none 0 0,.slice none 0 0],.int .i64 0] rfl (by kernel_rfl) (by kernel_rfl) (by kernel_rfl) (kn0 os enc)) ?_
 intro W base args ds gs before hval hW _ hk _ hla _ _;exact kn1 H enc W base args ds gs before hval hW (hk _ rfl) hla
theorem an {a b:Bool} (h:a=true) (g:b=true):(a&&b)=true:=by rw[h,g];rfl
theorem kn3:joinedFacts Tryz.pinned.checked.prog 8 Tryz.f8 (Rows.OpenSpec.upto Rows.envCanonSpec).bare Rows.envCanonUptoRow=true:=by
 unfold joinedFacts;refine an (an (an (an (an (an (an (an (an (an (an (an (an (an (an (an (an (an (an (an (an (an (an (an (an (an (an (an (an (an (an ?_ ?_) ?_) ?_) ?_) ?_) ?_) ?_) ?_) ?_) ?_) ?_) ?_) ?_) ?_) ?_) ?_) ?_) ?_) ?_) ?_) ?_) ?_) ?_) ?_) ?_) ?_) ?_) ?_) ?_) ?_) ?_;all_goals
  as_aux_lemma=>kernel_rfl
theorem envCanon_holds:Rows.EnvCanonUptoSaid:=
 OpenClaim.holds_of_cond 8 Tryz.f8 rfl rfl rfl rfl rfl rfl rfl ⟨rfl,rfl,rfl,rfl,rfl⟩ rfl rfl rfl rfl rfl (by kernel_rfl) Tryz.func8 kn3
  (of_decide_eq_true (by kernel_rfl)) (by unfold Func.isWrapper;first|(rw[if_pos (by decide +kernel)];kernel_rfl)|(rw[if_neg (by decide +kernel)];exact⟨rfl,rfl⟩))
  (fun os started H enc _ F=>by rw[OpenClaim.pre_eq_preRow];exact kn2 os started H enc F)
theorem envCanon_card:Rows.EnvCanonUptoCardSaid:=
 Claim7.holds_tied_plain_at .later [] [.data,.data,.data] true (true,"fe5f35bacfe5e41cd441d2f482278a84d06049a93a0b4c54af26666c9d0036e6") false
  envCanon_holds (fun _ h=>by cases h) (by kernel_rfl) (fun _ h=>by cases h) envCanonUpto_row_tie rfl ⟨rfl,rfl⟩ (by kernel_rfl) rfl
  (fun f fn hf hfn=>by
   obtain rfl:f=8:=Option.some.inj ((show kp8.funcNamed "wafer/waferlaw13.EnvCanon" = some 8 by kernel_rfl).symm.trans hf) |>.symm;obtain rfl:fn=Tryz.f8:=(Option.some.inj (Tryz.func8.symm.trans hfn)).symm;exact⟨by kernel_rfl,fun j t ht=>by
    rw[Tryz.params8]at ht;have hm:t∈[87,3]:=by simpa using Array.mem_of_getElem? ht
    have hall:([87,3].all fun u=>!kp8.wantsStandIn u)=true:=by kernel_rfl
    exact(show kp8.wantsStandIn t=false by simpa using List.all_eq_true.1 hall t hm)⟩)
  (by kernel_rfl)
#print axioms envCanon_card
end Go.Proofs.YtdabfkmhkoppcaaGreatDoor
