/- SigsFresh: for every input (of the given bulk at most) the law returns true; its arguments read behind the call as they read before. The card: what the row lists is tied to the text. -/
import Derived.Test.YtladjgdhpfcmjaaGreatDoorVtR17
import Derived.Test.YtladjgdhpfcmjaaGreatDoorVtY1
import Derived.Test.YtladjgdhpfcmjaaGreatDoorCards
import Derived.Test.YtladjgdhpfcmjaaGreatDoorTie
import Derived.LaidMore
import Derived.LaidHandle
import Derived.Deep.DeepWitnessRowRef
import Derived.SevenTiedAt
set_option maxRecDepth 100000
namespace Go.Proofs.YtladjgdhpfcmjaaGreatDoor
open Go.ChangeShapes Go.WideShapes Go.ChangeAt Go.RowKit Go.Vt Go.Vt.Tryz

noncomputable def laidWorld (os : Os) : World := World.doorLaid Tryz.prog 24 os
theorem laid_met (os : Os) (args : Array Value) : laidMetH Tryz.prog Rows.sigsFreshUptoRow.laid ((laidWorld os).forCall (fun _ _ => 0) ⟨#[], args, []⟩).memory :=
  laidMetH_of_parts3 (fuel := 8) (laidMet_of_run' 8 (by kernel_rfl) (by kernel_rfl)) (by kernel_rfl) (by kernel_rfl)

theorem witness_row (os : Os) {H : Type} (enc : TypeId × Value → H) :
    (Rows.OpenSpec.upto Rows.sigsFreshSpec).preRow enc Tryz.prog Tryz.f3 Rows.sigsFreshUptoRow.domain false Rows.sigsFreshUptoRow.laid ((laidWorld os).forCall (fun _ _ => 0) ⟨#[], #[.agg #[.slice none 0 0, .slice none 0 0, .slice none 0 0, .slice none 0 0, .slice none 0 0, .slice none 0 0], .int .i64 0], []⟩).memory #[.agg #[.slice none 0 0, .slice none 0 0, .slice none 0 0, .slice none 0 0, .slice none 0 0, .slice none 0 0], .int .i64 0] := by
  have hw : (DataW.whole enc Tryz.prog ((laidWorld os).forCall (fun _ _ => 0) ⟨#[], #[.agg #[.slice none 0 0, .slice none 0 0, .slice none 0 0, .slice none 0 0, .slice none 0 0, .slice none 0 0], .int .i64 0], []⟩).memory Tryz.f3.params.toList (Rows.OpenSpec.upto Rows.sigsFreshSpec).vars false (#[.agg #[.slice none 0 0, .slice none 0 0, .slice none 0 0, .slice none 0 0, .slice none 0 0, .slice none 0 0], .int .i64 0] : Array Value).toList 8).map (fun x => (x.1, x.2.1)) =
      some ([.agg [.nil, .agg [.nil, .nil, .nil, .nil, .nil]], .lit (.int .i64 0)], []) := by kernel_rfl
  obtain ⟨⟨x1, x2, x3⟩, hx, hx1⟩ := Option.map_eq_some_iff.1 hw
  simp only [Prod.mk.injEq] at hx1
  obtain ⟨rfl, rfl⟩ := hx1
  exact OpenSpec.preRow_of_cond 8 hx (by kernel_rfl) (fun k hk => by cases hk; kernel_rfl) (by kernel_rfl) (laid_met os _)

theorem sigsFresh_contract (H : Type) (enc : TypeId × Value → H) (W : World) (base : Nat) (args : Array Value) (ds gs : List (DataW H)) (before : List MemPlace)
    (hval0 : ∀ (j : Nat) t v, Tryz.f3.params[j]? = some t → args[j]? = some v → Value.okWide Tryz.prog W .any base t v)
    (hW : DataW.Whole enc Tryz.prog Tryz.f3.params.toList Rows.sigsFreshSpec.vars false W args.toList ds gs before) (hk : Rows.uptoSmall H (ds ++ gs) = true) :
    Calls Tryz.prog 3 args W fun e W' => ∃ v, e = .returned v ∧ Rows.sigsFreshSpec.post enc Tryz.prog Tryz.f3 false true false false W args v W' := by
  have hW' := hW
  obtain ⟨p, q, hA0, hV, rfl, hfz, hnd⟩ := hW
  have hA : DataW.TrodAll enc Tryz.prog W 0 (fun _ => true) true Tryz.f3.params.toList args.toList ds p := hA0
  rw [Tryz.params3] at hA
  obtain ⟨v0, vs0, d0, ds0, p0, q0, hargs, rfl, rfl, ⟨fu0, h0⟩, t0⟩ := trodAll_cons hA
  obtain ⟨v1, vs1, d1, ds1, p1, q1, rfl, rfl, rfl, ⟨fu1, h1⟩, t1⟩ := trodAll_cons t0
  obtain ⟨rfl, rfl, rfl⟩ := trodAll_nil t1
  obtain rfl : args = #[v0, v1] := Array.toList_inj.1 hargs
  obtain ⟨rfl, rfl⟩ := trodVars_none hV
  have hb : Rows.uptoBulk d0 + Rows.uptoBulk d1 ≤ 1048576 := by
    have h := of_decide_eq_true hk
    simp only [List.append_nil, Rows.uptoBulkAll] at h
    omega
  obtain ⟨l0, e0, s0⟩ := (fun fu => rd_ab (fuel := fu) (fun k _ => rd_st k)) _ _ ⟨_, _, h0⟩
  have r0 := rep_agg (by decide) h0 e0 (by obtain ⟨_, ⟨_, _, _, _, _⟩⟩ := l0; simp [encAb, encSt])
  obtain ⟨l1, e1, s1⟩ := rd_int3 _ _ ⟨_, _, h1⟩
  have r1 := rep_one (by decide) h1 e1 (cells_one (by kernel_rfl) (hval0 1 3 v1 (by rw [Tryz.params3]; rfl) rfl))
  clear hA0 hval0
  simp only [List.append_nil] at hW'
  have hlt := hW'.lt
  have z : abq l0 ≤ 1048576 := by omega
  unfold abq at z
  obtain ⟨li, st⟩ := l0
  simp only at z
  have hq := st_q st
  have vc := vc_SigsFresh li st l1 (by omega) (by omega) (hq.2 (by omega))
  have hcall := vc.2 W pl0 #[v0, v1] (hrep0 W) rfl (fun j v x hj hx => by
    match j, hj, hx with
    | 0, hj, hx => simp at hj hx; subst hj; subst hx; exact r0
    | 1, hj, hx => simp at hj hx; subst hj; subst hx; exact r1
    | _ + 2, hj, _ => simp at hj)
  refine (callsIn_wide.1 hcall).mono fun e W' ⟨r, x, h', μ', he, hp, Hr, hx, g⟩ => ?_
  obtain ⟨rfl, rfl⟩ := hp
  have hxb : x = .bool true := by
    cases hx with
    | one _ hl => cases hl with | d hd => cases hd; rfl
  subst hxb
  have hb := below_of g
  refine ⟨_, he, post_of_below (pa := p0 ++ (p1 ++ ([]))) (pv := []) hW' hb (fun _ _ _ => trodAll_mk1 (shut_bool Tryz.underlying4 true)) (fun sp hsp => ?_) (fun _ _ => rfl) (by simp) ?_⟩
  · refine trodAll_more ?_ (trodAll_more ?_ (trodAll_mk0))
    · exact WideElems.Trod_stays Tryz.laidOut (by kernel_rfl) (of_decide_eq_true (by kernel_rfl)) ⟨_, h0⟩ (fun x hx => hb.same (hlt x (by simp [hx]))) (fun x hx => hsp x (by simp [hx]))
    · exact WideElems.Trod_stays Tryz.laidOut (by kernel_rfl) (of_decide_eq_true (by kernel_rfl)) ⟨_, h1⟩ (fun x hx => hb.same (hlt x (by simp [hx]))) (fun x hx => hsp x (by simp [hx]))
  · exact ok_one (by kernel_rfl) rfl (okWide_bool_mk Tryz.underlying4 true)

theorem sigsFresh_lifted (os : Os) (started : os.Started) (H : Type) (enc : TypeId × Value → H) (F : Stop.Interp) :
    ReturnsInHanded {} Tryz.checked os 3 .any ((Rows.OpenSpec.upto Rows.sigsFreshSpec).preRow enc Tryz.prog Tryz.f3 Rows.sigsFreshUptoRow.domain false Rows.sigsFreshUptoRow.laid) (((Rows.OpenSpec.upto Rows.sigsFreshSpec).at F).post enc Tryz.prog Tryz.f3 false true false false) := by
  refine returnsInHanded_of_row (C := Tryz.checked) (s := Rows.OpenSpec.upto Rows.sigsFreshSpec) Tryz.own started (by kernel_rfl) Tryz.func3
    (witness_row_atRef (enc := enc) (C := Tryz.checked) false (laidWorld os) #[.agg #[.slice none 0 0, .slice none 0 0, .slice none 0 0, .slice none 0 0, .slice none 0 0, .slice none 0 0], .int .i64 0] rfl (by kernel_rfl) (by kernel_rfl) (by kernel_rfl) (witness_row os enc)) ?_
  intro W base args ds gs before hval hW _ hk _ _ _ _
  exact sigsFresh_contract H enc W base args ds gs before hval hW (hk _ rfl)

theorem an {a b : Bool} (h : a = true) (g : b = true) : (a && b) = true := by rw [h, g]; rfl

set_option maxHeartbeats 4000000 in
theorem sigsFresh_closed : joinedFacts Tryz.pinned.checked.prog 3 Tryz.f3 (Rows.OpenSpec.upto Rows.sigsFreshSpec).bare Rows.sigsFreshUptoRow = true := by
  unfold joinedFacts
  refine an (an (an (an (an (an (an (an (an (an (an (an (an (an (an (an (an (an (an (an (an (an (an (an (an (an (an (an (an (an (an ?_ ?_) ?_) ?_) ?_) ?_) ?_) ?_) ?_) ?_) ?_) ?_) ?_) ?_) ?_) ?_) ?_) ?_) ?_) ?_) ?_) ?_) ?_) ?_) ?_) ?_) ?_) ?_) ?_) ?_) ?_) ?_
  all_goals
    as_aux_lemma => kernel_rfl

theorem sigsFresh_holds : Rows.SigsFreshUptoSaid :=
  OpenClaim.holds_of_cond 3 Tryz.f3 rfl rfl rfl rfl rfl rfl rfl ⟨rfl, rfl, rfl, rfl, rfl⟩ rfl rfl rfl rfl rfl (by kernel_rfl) Tryz.func3 sigsFresh_closed
    (of_decide_eq_true (by kernel_rfl)) (by unfold Func.isWrapper; first | (rw [if_pos (by decide +kernel)]; kernel_rfl) | (rw [if_neg (by decide +kernel)]; exact ⟨rfl, rfl⟩))
    (fun os started H enc _ F => by rw [OpenClaim.pre_eq_preRow]; exact sigsFresh_lifted os started H enc F)

theorem sigsFresh_card : Rows.SigsFreshUptoCardSaid :=
  Claim7.holds_tied_plain_at .later [] [.data, .data, .data] true (true, "9aafd84731a226bae8b05052e8389b6665e139bb929eca23fb3c49fd883f5d07") true
    sigsFresh_holds (fun _ h => by cases h) (by kernel_rfl) (fun _ h => by cases h) sigsFreshUpto_row_tie rfl ⟨rfl, rfl⟩ (by kernel_rfl) rfl
    (fun f fn hf hfn => by
      obtain rfl : f = 3 := Option.some.inj ((show Tryz.prog.funcNamed "wafer/waferlaw17.SigsFresh" = some 3 by kernel_rfl).symm.trans hf) |>.symm
      obtain rfl : fn = Tryz.f3 := (Option.some.inj (Tryz.func3.symm.trans hfn)).symm
      exact ⟨by kernel_rfl, fun j t ht => by
        rw [Tryz.params3] at ht
        have hm : t ∈ [31, 3] := by simpa using Array.mem_of_getElem? ht
        have hall : ([31, 3].all fun u => !Tryz.prog.wantsStandIn u) = true := by kernel_rfl
        exact (show Tryz.prog.wantsStandIn t = false by simpa using List.all_eq_true.1 hall t hm)⟩)
    (by kernel_rfl)

#print axioms sigsFresh_card
end Go.Proofs.YtladjgdhpfcmjaaGreatDoor
