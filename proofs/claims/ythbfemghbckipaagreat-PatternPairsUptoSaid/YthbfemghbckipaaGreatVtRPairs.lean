/- PatternPairs: for every input (of the given bulk at most) the law returns true; its arguments read behind the call as they read before. -/
import Derived.Test.YthbfemghbckipaaGreatVtR15
set_option maxRecDepth 100000
namespace Go.Proofs.YthbfemghbckipaaGreat
open Go.ChangeShapes Go.WideShapes Go.ChangeAt Go.RowKit Go.Vt Go.Vt.Tryz

theorem patternPairs_contract (H : Type) (enc : TypeId × Value → H) (W : World) (base : Nat) (args : Array Value) (ds gs : List (DataW H)) (before : List MemPlace)
    (hval0 : ∀ (j : Nat) t v, Tryz.f4.params[j]? = some t → args[j]? = some v → Value.okWide Tryz.prog W .any base t v)
    (hW : DataW.Whole enc Tryz.prog Tryz.f4.params.toList Rows.patternPairsSpec.vars false W args.toList ds gs before) (hk : Rows.uptoSmall H (ds ++ gs) = true) :
    Calls Tryz.prog 4 args W fun e W' => ∃ v, e = .returned v ∧ Rows.patternPairsSpec.post enc Tryz.prog Tryz.f4 false true false false W args v W' := by
  have hW' := hW
  obtain ⟨p, q, hA0, hV, rfl, hfz, hnd⟩ := hW
  have hA : DataW.TrodAll enc Tryz.prog W 0 (fun _ => true) true Tryz.f4.params.toList args.toList ds p := hA0
  rw [Tryz.params4] at hA
  obtain ⟨v0, vs0, d0, ds0, p0, q0, hargs, rfl, rfl, ⟨fu0, h0⟩, t0⟩ := trodAll_cons hA
  obtain ⟨v1, vs1, d1, ds1, p1, q1, rfl, rfl, rfl, ⟨fu1, h1⟩, t1⟩ := trodAll_cons t0
  obtain ⟨v2, vs2, d2, ds2, p2, q2, rfl, rfl, rfl, ⟨fu2, h2⟩, t2⟩ := trodAll_cons t1
  obtain ⟨v3, vs3, d3, ds3, p3, q3, rfl, rfl, rfl, ⟨fu3, h3⟩, t3⟩ := trodAll_cons t2
  obtain ⟨rfl, rfl, rfl⟩ := trodAll_nil t3
  obtain rfl : args = #[v0, v1, v2, v3] := Array.toList_inj.1 hargs
  obtain ⟨rfl, rfl⟩ := trodVars_none hV
  have hb : Rows.uptoBulk d0 + Rows.uptoBulk d1 + Rows.uptoBulk d2 + Rows.uptoBulk d3 ≤ 1048576 := by
    have h := of_decide_eq_true hk
    simp only [List.append_nil, Rows.uptoBulkAll] at h
    omega
  obtain ⟨l0, e0, s0⟩ := (rd_pa _).1 _ _ _ h0
  have r0 := rep_pa h0 e0
  obtain ⟨l1, e1, s1⟩ := (rd_pa _).1 _ _ _ h1
  have r1 := rep_pa h1 e1
  obtain ⟨l2, e2, s2⟩ := (rd_va _).1 _ _ _ h2
  have r2 := rep_va h2 e2
  obtain ⟨l3, e3, s3⟩ := (rd_va _).1 _ _ _ h3
  have r3 := rep_va h3 e3
  clear hA0 hval0
  simp only [List.append_nil] at hW'
  have hlt := hW'.lt
  have hcall := (vc_pairs l0 l1 l2 l3 (by omega) (fun u hu => by rcases List.mem_append.1 hu with h | h; (have := fitS_sub _ _ u h; omega); (have := fitS_sub _ _ u h; omega))).2 W pl0 #[v0, v1, v2, v3] (hrep0 W) rfl (fun j v x hj hx => by
    match j, hj, hx with
    | 0, hj, hx => simp at hj hx; subst hj; subst hx; exact r0
    | 1, hj, hx => simp at hj hx; subst hj; subst hx; exact r1
    | 2, hj, hx => simp at hj hx; subst hj; subst hx; exact r2
    | 3, hj, hx => simp at hj hx; subst hj; subst hx; exact r3
    | _ + 4, hj, _ => simp at hj)
  refine (callsIn_wide.1 hcall).mono fun e W' ⟨r, x, h', μ', he, hp, Hr, hx, g⟩ => ?_
  obtain ⟨rfl, rfl⟩ := hp
  have hxb : x = .bool true := by
    cases hx with
    | one _ hl => cases hl with | d hd => cases hd; rfl
  subst hxb
  have hb := below_of g
  refine ⟨_, he, post_of_below (pa := p0 ++ (p1 ++ (p2 ++ (p3 ++ ([]))))) (pv := []) hW' hb (fun _ _ _ => trodAll_mk1 (shut_bool Tryz.underlying4 true)) (fun sp hsp => ?_) (fun _ _ => rfl) (by simp) ?_⟩
  · refine trodAll_more ?_ (trodAll_more ?_ (trodAll_more ?_ (trodAll_more ?_ (trodAll_mk0))))
    · exact WideElems.Trod_stays Tryz.laidOut (by kernel_rfl) (of_decide_eq_true (by kernel_rfl)) ⟨_, h0⟩ (fun x hx => hb.same (hlt x (by simp [hx]))) (fun x hx => hsp x (by simp [hx]))
    · exact WideElems.Trod_stays Tryz.laidOut (by kernel_rfl) (of_decide_eq_true (by kernel_rfl)) ⟨_, h1⟩ (fun x hx => hb.same (hlt x (by simp [hx]))) (fun x hx => hsp x (by simp [hx]))
    · exact WideElems.Trod_stays Tryz.laidOut (by kernel_rfl) (of_decide_eq_true (by kernel_rfl)) ⟨_, h2⟩ (fun x hx => hb.same (hlt x (by simp [hx]))) (fun x hx => hsp x (by simp [hx]))
    · exact WideElems.Trod_stays Tryz.laidOut (by kernel_rfl) (of_decide_eq_true (by kernel_rfl)) ⟨_, h3⟩ (fun x hx => hb.same (hlt x (by simp [hx]))) (fun x hx => hsp x (by simp [hx]))
  · exact ok_one (by kernel_rfl) rfl (okWide_bool_mk Tryz.underlying4 true)

theorem patternPairs_lifted (os : Os) (started : os.Started) (H : Type) (enc : TypeId × Value → H) (F : Stop.Interp) :
    ReturnsInHanded {} Tryz.checked os 4 .any ((Rows.OpenSpec.upto Rows.patternPairsSpec).pre6 enc Tryz.prog Tryz.f4 Rows.patternPairsUptoRow.domain false) (((Rows.OpenSpec.upto Rows.patternPairsSpec).at F).post enc Tryz.prog Tryz.f4 false true false false) := by
  refine returnsInHanded_of_cond (C := Tryz.checked) (s := Rows.OpenSpec.upto Rows.patternPairsSpec) (k := Rows.uptoSmall) rfl Tryz.own started (by kernel_rfl) Tryz.func4
    (OpenSpec.witness (enc := enc) (C := Tryz.checked) (s := Rows.OpenSpec.upto Rows.patternPairsSpec) (k := Rows.uptoSmall) rfl false ⟨#[], #[.agg #[.int .i64 0, .string ⟨#[]⟩, .slice none 0 0, .int .i64 0, .slice none 0 0], .agg #[.int .i64 0, .string ⟨#[]⟩, .slice none 0 0, .int .i64 0, .slice none 0 0], .agg #[.int .i64 0, .int .i64 0, .string ⟨#[]⟩, .slice none 0 0], .agg #[.int .i64 0, .int .i64 0, .string ⟨#[]⟩, .slice none 0 0]], []⟩ 8 (by kernel_rfl) (by kernel_rfl) (by kernel_rfl)
      (x := ([.agg [.lit (.int .i64 0), .lit (.string []), .nil, .lit (.int .i64 0), .nil], .agg [.lit (.int .i64 0), .lit (.string []), .nil, .lit (.int .i64 0), .nil], .agg [.lit (.int .i64 0), .lit (.int .i64 0), .lit (.string []), .nil], .agg [.lit (.int .i64 0), .lit (.int .i64 0), .lit (.string []), .nil]], [], [])) (by kernel_rfl) rfl (by kernel_rfl)) ?_
  intro W base args ds gs before hval hW _ hk _
  exact patternPairs_contract H enc W base args ds gs before hval hW hk

theorem patternPairs_holds : Rows.PatternPairsUptoSaid :=
  OpenClaim.holds_of_cond 4 Tryz.f4 rfl rfl rfl rfl rfl rfl rfl ⟨rfl, rfl, rfl, rfl, rfl⟩ rfl rfl rfl rfl rfl (by kernel_rfl) Tryz.func4 (by kernel_rfl)
    (of_decide_eq_true (by kernel_rfl)) (by unfold Func.isWrapper; first | (rw [if_pos (by decide +kernel)]; kernel_rfl) | (rw [if_neg (by decide +kernel)]; exact ⟨rfl, rfl⟩))
    (fun os started H enc _ F => patternPairs_lifted os started H enc F)

#print axioms patternPairs_holds
end Go.Proofs.YthbfemghbckipaaGreat
