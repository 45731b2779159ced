/- UnifyLeast: for every input (of the given bulk at most) the law returns true; its arguments read behind the call as they read before. -/
import Derived.Test.YtkpfdafjhhjnmaaVtR1
import Derived.Test.YtkpfdafjhhjnmaaVtT18
set_option maxRecDepth 100000
namespace Go.Proofs.Ytkpfdafjhhjnmaa
open Go.ChangeShapes Go.WideShapes Go.ChangeAt Go.RowKit Go.Vt Go.Vt.Try

theorem nodesL_mem' {l : List Ty} {t : Ty} (h : t ∈ l) : nodes t ≤ nodesL l := nodesL_mem h

theorem least_ok {B0 B1 : Nat} {l : List OpS} {ts : List Ty} (hb : B0 + B1 ≤ 1048576) (n0 : 3 * l.length ≤ B0) (s0 : ∀ o ∈ l, nodes o.a + nodes o.b ≤ B0) (s1 : nodesL ts + 1 ≤ B1) (_u0 : True) (_u1 : True) : LeastOk l ts := by
  have hl := length_nodesL ts
  refine ⟨⟨by omega, fun o ho => by have := s0 o ho; omega⟩, by omega, fun o ho => by have := s0 o ho; have := nodes_pos o.a; have := nodes_pos o.b; omega, fun t ht => by have := nodesL_mem' ht; omega⟩

theorem unifyLeast_contract (H : Type) (enc : TypeId × Value → H) (W : World) (base : Nat) (args : Array Value) (ds gs : List (DataW H)) (before : List MemPlace)
    (hval0 : ∀ (j : Nat) t v, Try.f4.params[j]? = some t → args[j]? = some v → Value.okWide Try.prog W .any base t v)
    (hW : DataW.Whole enc Try.prog Try.f4.params.toList Rows.unifyLeastSpec.vars false W args.toList ds gs before) (hk : Rows.uptoSmall H (ds ++ gs) = true) :
    Calls Try.prog 4 args W fun e W' => ∃ v, e = .returned v ∧ Rows.unifyLeastSpec.post enc Try.prog Try.f4 false true false false W args v W' := by
  have hval : ∀ (j : Nat) t v, Try.f4.params[j]? = some t → args[j]? = some v → Value.okWide Try.prog W .any base t v := hval0
  have hW' := hW
  obtain ⟨p, q, hA0, hV, rfl, hfz, hnd⟩ := hW
  have hA : DataW.TrodAll enc Try.prog W 0 (fun _ => true) true Try.f4.params.toList args.toList ds p := hA0
  rw [Try.params4] at hA hval
  obtain ⟨v0, v1, d0, d1, p0, p1, rfl, rfl, rfl, H0, H1⟩ := trodAll_two hA
  obtain ⟨rfl, rfl⟩ := trodVars_none hV
  have hv0 := hval 0 22 v0 rfl rfl
  have hv1 := hval 1 27 v1 rfl rfl
  obtain ⟨fu0, h0⟩ := H0
  obtain ⟨fu1, h1⟩ := H1
  have hb : Rows.uptoBulk d0 + Rows.uptoBulk d1 ≤ 1048576 := by
    have h := of_decide_eq_true hk
    simp only [List.append_nil, Rows.uptoBulkAll] at h
    omega
  obtain ⟨l0, e0, n0, s0⟩ := rd_ops h0
  have r0 := rep_one (by decide) (cells_one (by rw [Try.underlying22]) hv0) h0 e0
  obtain ⟨l1, e1, s1⟩ := (rd_ty _).2 _ _ _ h1
  have r1 := rep_one (by decide) (cells_one (by rw [Try.underlying27]) hv1) h1 e1
  clear hA0 hval0
  simp only [List.append_nil] at hW'
  have hlt := hW'.lt
  have hcall := (vc_least l0 l1 (least_ok hb n0 s0 s1 trivial trivial)).2 W pl0 #[v0, v1] (hrep0 W) rfl (fun j v x hj hx => by
    match j, hj, hx with
    | 0, hj, hx => simp at hj hx; subst hj; subst hx; exact r0
    | 1, hj, hx => simp at hj hx; subst hj; subst hx; exact r1
    | _ + 2, hj, _ => simp at hj)
  refine (callsIn_wide.1 hcall).mono fun e W' ⟨r, x, h', μ', he, hp, Hr, hx, g⟩ => ?_
  obtain ⟨rfl, rfl⟩ := hp
  have hxb : x = .bool true := by
    cases hx with
    | one _ hl => cases hl with | d hd => cases hd; rfl
  subst hxb
  have hb := below_of g
  refine ⟨_, he, post_of_below (pa := p0 ++ p1) (pv := []) hW' hb (fun _ _ _ => trodAll_mk1 (shut_bool Try.underlying4 true)) (fun sp hsp => ?_) (fun _ _ => rfl) (by simp) ?_⟩
  · refine trodAll_mk2 ?_ ?_
    · exact WideElems.Trod_stays Try.laidOut (by kernel_rfl) (of_decide_eq_true (by kernel_rfl)) ⟨_, h0⟩ (fun x hx => hb.same (hlt x (by simp [hx]))) (fun x hx => hsp x (by simp [hx]))
    · exact WideElems.Trod_stays Try.laidOut (by kernel_rfl) (of_decide_eq_true (by kernel_rfl)) ⟨_, h1⟩ (fun x hx => hb.same (hlt x (by simp [hx]))) (fun x hx => hsp x (by simp [hx]))
  · exact ok_one (by kernel_rfl) rfl (okWide_bool_mk Try.underlying4 true)

theorem unifyLeast_lifted (os : Os) (started : os.Started) (H : Type) (enc : TypeId × Value → H) (F : Stop.Interp) :
    ReturnsInHanded {} Try.checked os 4 .any ((Rows.OpenSpec.upto Rows.unifyLeastSpec).pre6 enc Try.prog Try.f4 Rows.unifyLeastUptoRow.domain false) (((Rows.OpenSpec.upto Rows.unifyLeastSpec).at F).post enc Try.prog Try.f4 false true false false) := by
  refine returnsInHanded_of_cond (C := Try.checked) (s := Rows.OpenSpec.upto Rows.unifyLeastSpec) (k := Rows.uptoSmall) rfl Try.own started (by kernel_rfl) Try.func4
    (OpenSpec.witness (enc := enc) (C := Try.checked) (s := Rows.OpenSpec.upto Rows.unifyLeastSpec) (k := Rows.uptoSmall) rfl false ⟨#[], #[.slice none 0 0, .slice none 0 0], []⟩ 8 (by kernel_rfl) (by kernel_rfl) (by kernel_rfl)
      (x := ([.nil, .nil], [], [])) (by kernel_rfl) rfl (by kernel_rfl)) ?_
  intro W base args ds gs before hval hW _ hk _
  exact unifyLeast_contract H enc W base args ds gs before hval hW hk

theorem unifyLeast_holds : Rows.UnifyLeastUptoSaid :=
  OpenClaim.holds_of_cond 4 Try.f4 rfl rfl rfl rfl rfl rfl rfl ⟨rfl, rfl, rfl, rfl, rfl⟩ rfl rfl rfl rfl rfl (by kernel_rfl) Try.func4 (by kernel_rfl)
    (of_decide_eq_true (by kernel_rfl)) (by unfold Func.isWrapper; first | (rw [if_pos (by decide +kernel)]; kernel_rfl) | (rw [if_neg (by decide +kernel)]; exact ⟨rfl, rfl⟩))
    (fun os started H enc _ F => unifyLeast_lifted os started H enc F)

#print axioms unifyLeast_holds
end Go.Proofs.Ytkpfdafjhhjnmaa
