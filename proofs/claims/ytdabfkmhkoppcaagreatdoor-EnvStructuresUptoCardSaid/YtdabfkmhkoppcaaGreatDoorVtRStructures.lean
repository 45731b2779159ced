/- EnvStructures: for every input (of the given bulk at most) the law returns true; its arguments read behind the call as they read before. The card: what the row lists is tied to the text. -/
import Derived.Test.YtdabfkmhkoppcaaGreatDoorVtR13
import Derived.Test.YtdabfkmhkoppcaaGreatDoorVtM3
import Derived.Test.YtdabfkmhkoppcaaGreatDoorCards
import Derived.Test.YtdabfkmhkoppcaaGreatDoorTie
import Derived.LaidMore
import Derived.LaidHandle
import Derived.Deep.DeepWitnessRowRef
import Derived.SevenTiedAt
set_option maxRecDepth 100000
namespace Go.Proofs.YtdabfkmhkoppcaaGreatDoor
open Go.ChangeShapes Go.WideShapes Go.ChangeAt Go.RowKit Go.Vt Go.Vt.Tryz

noncomputable def laidWorld (os : Os) : World := World.doorLaid Tryz.prog 24 os
theorem laid_met (os : Os) (args : Array Value) : laidMetH Tryz.prog Rows.envStructuresUptoRow.laid ((laidWorld os).forCall (fun _ _ => 0) ⟨#[], args, []⟩).memory :=
  laidMetH_of_parts3 (fuel := 8) (laidMet_of_run' 8 (by kernel_rfl) (by kernel_rfl)) (by kernel_rfl) (by kernel_rfl)

theorem witness_row (os : Os) {H : Type} (enc : TypeId × Value → H) :
    (Rows.OpenSpec.upto Rows.envStructuresSpec).preRow enc Tryz.prog Tryz.f5 Rows.envStructuresUptoRow.domain false Rows.envStructuresUptoRow.laid ((laidWorld os).forCall (fun _ _ => 0) ⟨#[], #[.agg #[.slice none 0 0, .slice none 0 0, .slice none 0 0, .slice none 0 0, .slice none 0 0, .slice none 0 0], .slice none 0 0], []⟩).memory #[.agg #[.slice none 0 0, .slice none 0 0, .slice none 0 0, .slice none 0 0, .slice none 0 0, .slice none 0 0], .slice none 0 0] := by
  have hw : (DataW.whole enc Tryz.prog ((laidWorld os).forCall (fun _ _ => 0) ⟨#[], #[.agg #[.slice none 0 0, .slice none 0 0, .slice none 0 0, .slice none 0 0, .slice none 0 0, .slice none 0 0], .slice none 0 0], []⟩).memory Tryz.f5.params.toList (Rows.OpenSpec.upto Rows.envStructuresSpec).vars false (#[.agg #[.slice none 0 0, .slice none 0 0, .slice none 0 0, .slice none 0 0, .slice none 0 0, .slice none 0 0], .slice none 0 0] : Array Value).toList 8).map (fun x => (x.1, x.2.1)) =
      some ([.agg [.nil, .nil, .nil, .nil, .nil, .nil], .nil], []) := by kernel_rfl
  obtain ⟨⟨x1, x2, x3⟩, hx, hx1⟩ := Option.map_eq_some_iff.1 hw
  simp only [Prod.mk.injEq] at hx1
  obtain ⟨rfl, rfl⟩ := hx1
  exact OpenSpec.preRow_of_cond 8 hx (by kernel_rfl) (fun k hk => by cases hk; kernel_rfl) (by kernel_rfl) (laid_met os _)

theorem envStructures_contract (H : Type) (enc : TypeId × Value → H) (W : World) (base : Nat) (args : Array Value) (ds gs : List (DataW H)) (before : List MemPlace)
    (hval0 : ∀ (j : Nat) t v, Tryz.f5.params[j]? = some t → args[j]? = some v → Value.okWide Tryz.prog W .any base t v)
    (hW : DataW.Whole enc Tryz.prog Tryz.f5.params.toList Rows.envStructuresSpec.vars false W args.toList ds gs before) (hk : Rows.uptoSmall H (ds ++ gs) = true) :
    Calls Tryz.prog 5 args W fun e W' => ∃ v, e = .returned v ∧ Rows.envStructuresSpec.post enc Tryz.prog Tryz.f5 false true false false W args v W' := by
  have hW' := hW
  obtain ⟨p, q, hA0, hV, rfl, hfz, hnd⟩ := hW
  have hA : DataW.TrodAll enc Tryz.prog W 0 (fun _ => true) true Tryz.f5.params.toList args.toList ds p := hA0
  rw [Tryz.params5] at hA
  obtain ⟨v0, vs0, d0, ds0, p0, q0, hargs, rfl, rfl, ⟨fu0, h0⟩, t0⟩ := trodAll_cons hA
  obtain ⟨v1, vs1, d1, ds1, p1, q1, rfl, rfl, rfl, ⟨fu1, h1⟩, t1⟩ := trodAll_cons t0
  obtain ⟨rfl, rfl, rfl⟩ := trodAll_nil t1
  obtain rfl : args = #[v0, v1] := Array.toList_inj.1 hargs
  obtain ⟨rfl, rfl⟩ := trodVars_none hV
  have hb : Rows.uptoBulk d0 + Rows.uptoBulk d1 ≤ 1048576 := by
    have h := of_decide_eq_true hk
    simp only [List.append_nil, Rows.uptoBulkAll] at h
    omega
  obtain ⟨l0, e0, s0⟩ := rd_env _ _ ⟨_, _, h0⟩
  have r0 := rep_agg (by decide) h0 e0 (by simp [encEnv])
  obtain ⟨l1, e1, s1⟩ := rd_txts _ _ ⟨_, _, h1⟩
  have r1 := rep_one (by decide) h1 e1 (cells_one (by kernel_rfl) (hval0 1 35 v1 (by rw [Tryz.params5]; rfl) rfl))
  clear hA0 hval0
  simp only [List.append_nil] at hW'
  have hlt := hW'.lt
  have hz0 := env_sizes (B := 1048576) (e := l0) (by omega)
  obtain ⟨⟨z0, z1, z2, z3, z4, z5⟩, zv, zs⟩ := hz0
  have zp : 1 + l1.length ≤ 1048576 := by
    have : 1 + l1.length ≤ Rows.uptoBulk d1 := s1
    omega
  have g2 : envn l0 ≤ 1048576 := by omega
  unfold envn at g2
  have zt : ∀ x ∈ l0.typs, tymn x ≤ 10000000 := fun x hx => by
    have g1 := sumN_mem (f := tymn) hx
    omega
  have zf : ∀ x ∈ l0.funs, fnS x.2.1 ≤ 10000000 ∧ tmn x.2.2 ≤ 10000000 := fun x hx => by
    have g1 := sumN_mem (f := funn) hx
    simp only [funn, fnn] at g1
    unfold fnS
    omega
  have zg : ∀ x ∈ l0.sigs, x.2.1.length + stn x.2.2 ≤ 10000000 := fun x hx => by
    have g1 := sumN_mem (f := sign) hx
    simp only [sign] at g1
    omega
  have vc := vc_EnvStructures l0.vals l0.cons l0.typs l0.subs l0.funs l0.sigs l1.reverse (by omega) (by omega) (by omega) (by omega) (by omega) (by omega) (by simp; omega)
    zt (fun x hx => ⟨Nat.le_trans (zs x hx).1 (by decide), Nat.le_trans (zs x hx).2 (by decide)⟩) zf zg
  rw [List.reverse_reverse] at vc
  have hcall := vc.2 W pl0 #[v0, v1] (hrep0 W) rfl (fun j v x hj hx => by
    match j, hj, hx with
    | 0, hj, hx => simp at hj hx; subst hj; subst hx; exact r0
    | 1, hj, hx => simp at hj hx; subst hj; subst hx; exact r1
    | _ + 2, hj, _ => simp at hj)
  refine (callsIn_wide.1 hcall).mono fun e W' ⟨r, x, h', μ', he, hp, Hr, hx, g⟩ => ?_
  obtain ⟨rfl, rfl⟩ := hp
  have hxb : x = .bool true := by
    cases hx with
    | one _ hl => cases hl with | d hd => cases hd; rfl
  subst hxb
  have hb := below_of g
  refine ⟨_, he, post_of_below (pa := p0 ++ (p1 ++ ([]))) (pv := []) hW' hb (fun _ _ _ => trodAll_mk1 (shut_bool Tryz.underlying4 true)) (fun sp hsp => ?_) (fun _ _ => rfl) (by simp) ?_⟩
  · refine trodAll_more ?_ (trodAll_more ?_ (trodAll_mk0))
    · exact WideElems.Trod_stays Tryz.laidOut (by kernel_rfl) (of_decide_eq_true (by kernel_rfl)) ⟨_, h0⟩ (fun x hx => hb.same (hlt x (by simp [hx]))) (fun x hx => hsp x (by simp [hx]))
    · exact WideElems.Trod_stays Tryz.laidOut (by kernel_rfl) (of_decide_eq_true (by kernel_rfl)) ⟨_, h1⟩ (fun x hx => hb.same (hlt x (by simp [hx]))) (fun x hx => hsp x (by simp [hx]))
  · exact ok_one (by kernel_rfl) rfl (okWide_bool_mk Tryz.underlying4 true)

theorem envStructures_lifted (os : Os) (started : os.Started) (H : Type) (enc : TypeId × Value → H) (F : Stop.Interp) :
    ReturnsInHanded {} Tryz.checked os 5 .any ((Rows.OpenSpec.upto Rows.envStructuresSpec).preRow enc Tryz.prog Tryz.f5 Rows.envStructuresUptoRow.domain false Rows.envStructuresUptoRow.laid) (((Rows.OpenSpec.upto Rows.envStructuresSpec).at F).post enc Tryz.prog Tryz.f5 false true false false) := by
  refine returnsInHanded_of_row (C := Tryz.checked) (s := Rows.OpenSpec.upto Rows.envStructuresSpec) Tryz.own started (by kernel_rfl) Tryz.func5
    (witness_row_atRef (enc := enc) (C := Tryz.checked) false (laidWorld os) #[.agg #[.slice none 0 0, .slice none 0 0, .slice none 0 0, .slice none 0 0, .slice none 0 0, .slice none 0 0], .slice none 0 0] rfl (by kernel_rfl) (by kernel_rfl) (by kernel_rfl) (witness_row os enc)) ?_
  intro W base args ds gs before hval hW _ hk _ _ _ _
  exact envStructures_contract H enc W base args ds gs before hval hW (hk _ rfl)

theorem an {a b : Bool} (h : a = true) (g : b = true) : (a && b) = true := by rw [h, g]; rfl

set_option maxHeartbeats 4000000 in
theorem envStructures_closed : joinedFacts Tryz.pinned.checked.prog 5 Tryz.f5 (Rows.OpenSpec.upto Rows.envStructuresSpec).bare Rows.envStructuresUptoRow = true := by
  unfold joinedFacts
  refine an (an (an (an (an (an (an (an (an (an (an (an (an (an (an (an (an (an (an (an (an (an (an (an (an (an (an (an (an (an (an ?_ ?_) ?_) ?_) ?_) ?_) ?_) ?_) ?_) ?_) ?_) ?_) ?_) ?_) ?_) ?_) ?_) ?_) ?_) ?_) ?_) ?_) ?_) ?_) ?_) ?_) ?_) ?_) ?_) ?_) ?_) ?_
  all_goals
    as_aux_lemma => kernel_rfl

theorem envStructures_holds : Rows.EnvStructuresUptoSaid :=
  OpenClaim.holds_of_cond 5 Tryz.f5 rfl rfl rfl rfl rfl rfl rfl ⟨rfl, rfl, rfl, rfl, rfl⟩ rfl rfl rfl rfl rfl (by kernel_rfl) Tryz.func5 envStructures_closed
    (of_decide_eq_true (by kernel_rfl)) (by unfold Func.isWrapper; first | (rw [if_pos (by decide +kernel)]; kernel_rfl) | (rw [if_neg (by decide +kernel)]; exact ⟨rfl, rfl⟩))
    (fun os started H enc _ F => by rw [OpenClaim.pre_eq_preRow]; exact envStructures_lifted os started H enc F)

theorem envStructures_card : Rows.EnvStructuresUptoCardSaid :=
  Claim7.holds_tied_plain_at .later [] [.data, .data, .data] true (true, "fe5f35bacfe5e41cd441d2f482278a84d06049a93a0b4c54af26666c9d0036e6") false
    envStructures_holds (fun _ h => by cases h) (by kernel_rfl) (fun _ h => by cases h) envStructuresUpto_row_tie rfl ⟨rfl, rfl⟩ (by kernel_rfl) rfl
    (fun f fn hf hfn => by
      obtain rfl : f = 5 := Option.some.inj ((show Tryz.prog.funcNamed "wafer/waferlaw13.EnvStructures" = some 5 by kernel_rfl).symm.trans hf) |>.symm
      obtain rfl : fn = Tryz.f5 := (Option.some.inj (Tryz.func5.symm.trans hfn)).symm
      exact ⟨by kernel_rfl, fun j t ht => by
        rw [Tryz.params5] at ht
        have hm : t ∈ [29, 35] := by simpa using Array.mem_of_getElem? ht
        have hall : ([29, 35].all fun u => !Tryz.prog.wantsStandIn u) = true := by kernel_rfl
        exact (show Tryz.prog.wantsStandIn t = false by simpa using List.all_eq_true.1 hall t hm)⟩)
    (by kernel_rfl)

#print axioms envStructures_card
end Go.Proofs.YtdabfkmhkoppcaaGreatDoor
