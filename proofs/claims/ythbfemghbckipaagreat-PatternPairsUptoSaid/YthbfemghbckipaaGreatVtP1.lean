/- Contracts of functions of this seat, at the level of values: each holds for all arguments that it names. -/
import Derived.Test.YthbfemghbckipaaGreatVtPatE
set_option maxRecDepth 100000
set_option linter.unusedSimpArgs false
namespace Go.Vt.Tryz
open Go.Proofs

inductive Pa where
  | mk (kind : Int) (name : ByteArray) (path : List ByteArray) (n : Int) (kids : List Pa)
inductive Va where
  | mk (kind n : Int) (name : ByteArray) (kids : List Va)

def txts (l : List ByteArray) : List (List D) := l.map fun s => [.str s]

def encP : Pa → List D
  | .mk k s p n l => [.int .i64 k, .str s, .sl (txts p), .int .i64 n, .sl (encs l)]
  where
  encs : List Pa → List (List D)
    | [] => []
    | t :: r => encP t :: encs r

def encV : Va → List D
  | .mk k n s l => [.int .i64 k, .int .i64 n, .str s, .sl (encs l)]
  where
  encs : List Va → List (List D)
    | [] => []
    | t :: r => encV t :: encs r

theorem encsP : ∀ l, encP.encs l = l.map encP
  | [] => rfl
  | _ :: r => by simp [encP.encs, encsP r]
theorem encsV : ∀ l, encV.encs l = l.map encV
  | [] => rfl
  | _ :: r => by simp [encV.encs, encsV r]

def Pa.kids : Pa → List Pa | .mk _ _ _ _ l => l
def Va.kids : Va → List Va | .mk _ _ _ l => l
def Va.kind : Va → Int | .mk k _ _ _ => k
def Va.num : Va → Int | .mk _ n _ _ => n
def Va.name : Va → ByteArray | .mk _ _ s _ => s

def paV (p : Pa) : V := .agg ((encP p).map .d)
def vaV (v : Va) : V := .agg ((encV v).map .d)

/-- The names and the values that have been bound. -/
def bnd (l : List (ByteArray × Va)) (a b : Nat) : AHeap := [.box [.own 2 a l.length], .box [.own 3 b l.length], .arr false 1 a (txts (l.map (·.1))), .arr false 4 b (encV.encs (l.map (·.2)))]

theorem txts_length (l : List ByteArray) : (txts l).length = l.length := by simp [txts]
theorem encsV_length (l : List Va) : (encV.encs l).length = l.length := by simp [encsV]
theorem encsP_length (l : List Pa) : (encP.encs l).length = l.length := by simp [encsP]

theorem vc_bind (s : ByteArray) (v : Va) (l : List (ByteArray × Va)) (a b : Nat) (hl : l.length < 1000000000) : VC Tryz.prog 10 [.one (.d (.str s)), vaV v, .one (.ptr 0 0), .one (.ptr 1 0)] (bnd l a b) fun r h' => r = .tup [] ∧ h' = bnd (l ++ [(s, v)]) (a + 1) (b + 1) := by
  obtain ⟨k, n, t, c⟩ := v
  refine VC_of_fn mixed fn10 (by simp) ?_
  show vwp Tryz.prog 4 vc10 _ [(0, .one (.d (.str s))), (1, .agg [.d (.int .i64 k), .d (.int .i64 n), .d (.str t), .d (.sl (encV.encs c))]), (2, .one (.ptr 0 0)), (3, .one (.ptr 1 0))] [.box [.own 2 a l.length], .box [.own 3 b l.length], .arr false 1 a (txts (l.map (·.1))), .arr false 4 b (encV.encs (l.map (·.2)))]
  unfold vc10
  rw [vwpI_eq]
  have hcap : (l.length + 1) * 16 ≤ maxBytes ∧ l.length + 1 ≤ maxBytes ∧ (l.length + 1) * 56 ≤ maxBytes := by simp [maxBytes]; omega
  have ht1 : List.take l.length (txts (l.map (·.1))) = txts (l.map (·.1)) := List.take_of_length_le (by simp [txts])
  have ht2 : List.take l.length (encV.encs (l.map (·.2))) = encV.encs (l.map (·.2)) := List.take_of_length_le (by simp [encsV])
  simp -implicitDefEqProofs only [kn_run, opsB_leaf, opsB_no, opsB_ro, opsB_alt, wp_opsB, opsW_nil, opsW_cons, again_nil, again_cons, obOf_nil, obOf_cons, wadd, ro, List.any_cons, List.any_nil, List.contains_cons, List.contains_nil, Bool.or_true, Bool.true_or, Bool.or_false, Bool.false_or, ob_some, ob_none, vbool_eq, vif_tt, vif_ff, vD_bool, vD_int, vD_str, wp_skip, wp_ops, wp_opsW, wp_both, wp_seq, wp_cond, wp_block, wp_exit, wp_ret, th_normal, th_exit, th_ret, bl_normal, bl_ret, bl_exit, ops_nil, ops_cons, go_none, go_some, cond_tt, cond_ff, put_some, put_none, asB, asL, asI, asFn, opd_tmp, opd_int, opd_bool, opd_str, opd_nils, opd_nilp, opd_nilf, opd_func, so_move, so_assign, so_pick, so_box, so_nilCheck, so_not, so_neg, so_makeFunc, so_extract, so_max, so_min, so_call, lk_cons, nilC_tmp, nilC_int, nilC_bool, nilC_str, nilC_nilp, so_load ti2, so_load ti3, so_load ti9, so_load ti22, so_load ti23, so_load ti25, so_load ti26, so_load ti28, so_build ti25, so_build ti28, so_bin ti2, so_bin ti3, so_bin ti4, so_bin ti9, so_len ti22, so_len ti23, so_len ti26, so_buildSlice ti22 rfl, so_buildSlice ti23 rfl, so_buildSlice ti26 rfl, so_append ti22 rfl, so_append ti23 rfl, so_append ti26 rfl, so_indexAddr ti22 rfl, so_indexAddr ti23 rfl, so_indexAddr ti26 rfl, so_alloc ti22, so_alloc ti25, so_alloc ti26, so_fieldAddr ti25 rfl, so_fieldAddr ti28 rfl, so_store ti22, so_store ti23, so_store ti25, so_store ti26, vload, mkV, vstore, vcells, known, toDs, toD, fzLs, fzL, fzOne, AObj.freeze, splice, vfieldAddr, vindexAddr, vbuild, vfill, vlen, vslice, vbound, opdO, opds, opdPairs, vbin, vint, vstr, visNil, visNilP, vfield, vpick, vrowsOf, vcaps, capOk, vrows, fzVs, vappend, allLen, zok, zrows, vcopy, nil_nils, nil_d, nil_own, arrVer, vundef, gb_b, gb_u, sb_tt, sb_ff, sb_tf, sb_ft, sb_nt, sb_nf, bq_tt, bq_ff, bq_tf, bq_ft, putBack, fzIds, lentVs, lentV, lentLs, lentL, idx, List.lookup_nil, List.getElem?_cons_zero, List.getElem?_cons_succ, List.getElem?_nil, List.take_succ_cons, List.take_zero, List.take_nil, List.drop_succ_cons, List.drop_zero, List.drop_nil, List.length_cons, List.length_nil, List.append_nil, List.nil_append, List.cons_append, List.map_cons, List.map_nil, List.set_cons_zero, List.set_cons_succ, List.set_nil, List.all_cons, List.all_nil, List.map_append, Bool.and_true, Bool.true_and, Nat.reduceBEq, Nat.reduceEqDiff, Nat.reduceLT, Nat.reduceLeDiff, Nat.reduceAdd, Nat.reduceMul, Nat.reduceSub, ↓reduceIte, reduceCtorEq, beq_self_eq_true, cond_true, cond_false, true_and, and_true, false_and, and_false, and_self, Option.map_some, Option.map_none, Option.bind_some, Option.bind_none, Option.isSome_some, decide_true, decide_false, decide_eq_true_eq, decide_eq_false_iff_not, beq_iff_eq, bne_iff_ne, beq_eq_false_iff_ne, bne_eq_false_iff_eq, Bool.false_eq_true, eq_self, forall_const, not_true_eq_false, not_false_eq_true, ne_eq, false_implies, implies_true, true_implies, Bool.not_true, Bool.not_false, Nat.zero_add, Nat.le_refl, Nat.add_zero, gt_iff_lt, ge_iff_le, hcap, ht1, ht2]
  have e1 : txts (l.map (·.1)) ++ [[D.str s]] = txts ((l ++ [(s, Va.mk k n t c)]).map (·.1)) := by simp [txts]
  have e2 : encV.encs (l.map (·.2)) ++ [[D.int .i64 k, D.int .i64 n, D.str t, D.sl (encV.encs c)]] = encV.encs ((l ++ [(s, Va.mk k n t c)]).map (·.2)) := by simp [encsV, encV]
  have e3 : l.length + 1 = (l ++ [(s, Va.mk k n t c)]).length := by simp
  rw [e1, e2, e3]
  refine ⟨⟨?_, ?_⟩, ?_⟩
  all_goals
    show vend _ _ _ _ .ret _ _
    apply vend_of [0, 1, 2, 3]; rfl; rfl
    exact ⟨rfl, rfl⟩

mutual
/-- Does a value fit a pattern? And what has been bound till it is known. -/
def fitS : Pa → Va → Bool × List (ByteArray × Va)
  | .mk k s path n kids, v =>
    if k = 1 then (kids.length == 0, [])
    else if k = 2 then (if 0 < kids.length then (false, []) else (true, [(s, v)]))
    else if k = 3 then (kids.length == 0 && v.kind == 1 && v.num == n, [])
    else if k = 4 then (kids.length == 0 && v.kind == 2 && v.num == 1, [])
    else if k = 5 then (kids.length == 0 && v.kind == 2 && v.num == 0, [])
    else if k = 6 then (kids.length == 0 && v.kind == 3, [])
    else if k = 7 then (if kids.length = 2 ∧ v.kind = 4 ∧ v.kids.length = 2 then fitL kids v.kids else (false, []))
    else if k = 8 then (if v.kind = 5 ∧ path ≠ [] ∧ path.getLast? = some v.name ∧ kids.length ≤ 1 ∧ kids.length = v.kids.length then fitL kids v.kids else (false, []))
    else (false, [])
def fitL : List Pa → List Va → Bool × List (ByteArray × Va)
  | [], [] => (true, [])
  | p :: r, v :: q => if (fitS p v).1 = true then ((fitL r q).1, (fitS p v).2 ++ (fitL r q).2) else (false, (fitS p v).2)
  | _, _ => (false, [])
end

theorem Pa.ind {P : Pa → Prop} (h : ∀ k s p n l, (∀ t ∈ l, P t) → P (.mk k s p n l)) : ∀ t, P t
  | .mk k s p n l => h k s p n l fun t _ => Pa.ind h t
  termination_by u => SizeOf.sizeOf u
  decreasing_by
  have := List.sizeOf_lt_of_mem ‹_›
  simp; omega

mutual
def pn : Pa → Nat
  | .mk _ _ path _ l => 1 + path.length + pns l
def pns : List Pa → Nat
  | [] => 0
  | t :: r => pn t + pns r
end

theorem fitL_len : ∀ (l : List Pa), (∀ p ∈ l, ∀ v, (fitS p v).2.length ≤ pn p) → ∀ q, (fitL l q).2.length ≤ pns l
  | [], _, q => by cases q <;> simp [fitL]
  | p :: r, h, q => by
    cases q with
    | nil => simp [fitL]
    | cons v q =>
      have a := h p (by simp) v
      have b := fitL_len r (fun p hp => h p (by simp [hp])) q
      simp only [fitL, pns]
      split
      · simp only [List.length_append]; omega
      · simp only; omega

theorem fitS_len : ∀ (p : Pa) (v : Va), (fitS p v).2.length ≤ pn p := by
  intro p
  induction p using Pa.ind with
  | h k s path n kids ih =>
  intro v
  have hl := fitL_len kids ih v.kids
  simp only [fitS, pn]
  (repeat' split) <;> first | (simp; done) | omega | (simp; omega)

set_option maxHeartbeats 4000000 in
theorem vc_fits : ∀ (p : Pa) (v : Va) (l : List (ByteArray × Va)) (a b : Nat), l.length + pn p < 1000000000 → VC Tryz.prog 9 [paV p, vaV v, .one (.fn 10 [.ptr 0 0, .ptr 1 0])] (bnd l a b) fun r h' => ∃ a' b', r = .one (.d (.bool (fitS p v).1)) ∧ h' = bnd (l ++ (fitS p v).2) a' b' := by
  intro p
  induction p using Pa.ind with
  | h k s path n kids ih =>
  intro v l a b hl
  obtain ⟨vk, vn, vs, vkids⟩ := v
  simp only [pn] at hl
  refine VC_of_fn mixed fn9 (by simp) ?_
  show vwp Tryz.prog 4 vc9 _ [(0, .agg [.d (.int .i64 k), .d (.str s), .d (.sl (txts path)), .d (.int .i64 n), .d (.sl (encP.encs kids))]), (1, .agg [.d (.int .i64 vk), .d (.int .i64 vn), .d (.str vs), .d (.sl (encV.encs vkids))]), (2, .one (.fn 10 [.ptr 0 0, .ptr 1 0]))] [.box [.own 2 a l.length], .box [.own 3 b l.length], .arr false 1 a (txts (l.map (·.1))), .arr false 4 b (encV.encs (l.map (·.2)))]
  unfold vc9
  rw [vwpI_eq]
  simp -implicitDefEqProofs only [kn_run, opsB_leaf, opsB_no, opsB_ro, opsB_alt, wp_opsB, opsW_nil, opsW_cons, again_nil, again_cons, obOf_nil, obOf_cons, wadd, ro, List.any_cons, List.any_nil, List.contains_cons, List.contains_nil, Bool.or_true, Bool.true_or, Bool.or_false, Bool.false_or, ob_some, ob_none, vbool_eq, vif_tt, vif_ff, vD_bool, vD_int, vD_str, wp_skip, wp_ops, wp_opsW, wp_both, wp_seq, wp_cond, wp_block, wp_exit, wp_ret, th_normal, th_exit, th_ret, bl_normal, bl_ret, bl_exit, ops_nil, ops_cons, go_none, go_some, cond_tt, cond_ff, put_some, put_none, asB, asL, asI, asFn, opd_tmp, opd_int, opd_bool, opd_str, opd_nils, opd_nilp, opd_nilf, opd_func, so_move, so_assign, so_pick, so_box, so_nilCheck, so_not, so_neg, so_makeFunc, so_extract, so_max, so_min, so_call, lk_cons, nilC_tmp, nilC_int, nilC_bool, nilC_str, nilC_nilp, so_load ti2, so_load ti3, so_load ti9, so_load ti22, so_load ti23, so_load ti25, so_load ti26, so_load ti28, so_build ti25, so_build ti28, so_bin ti2, so_bin ti3, so_bin ti4, so_bin ti9, so_len ti22, so_len ti23, so_len ti26, so_buildSlice ti22 rfl, so_buildSlice ti23 rfl, so_buildSlice ti26 rfl, so_append ti22 rfl, so_append ti23 rfl, so_append ti26 rfl, so_indexAddr ti22 rfl, so_indexAddr ti23 rfl, so_indexAddr ti26 rfl, so_alloc ti22, so_alloc ti25, so_alloc ti26, so_fieldAddr ti25 rfl, so_fieldAddr ti28 rfl, so_store ti22, so_store ti23, so_store ti25, so_store ti26, vload, mkV, vstore, vcells, known, toDs, toD, fzLs, fzL, fzOne, AObj.freeze, splice, vfieldAddr, vindexAddr, vbuild, vfill, vlen, vslice, vbound, opdO, opds, opdPairs, vbin, vint, vstr, visNil, visNilP, vfield, vpick, vrowsOf, vcaps, capOk, vrows, fzVs, vappend, allLen, zok, zrows, vcopy, nil_nils, nil_d, nil_own, arrVer, vundef, gb_b, gb_u, sb_tt, sb_ff, sb_tf, sb_ft, sb_nt, sb_nf, bq_tt, bq_ff, bq_tf, bq_ft, putBack, fzIds, lentVs, lentV, lentLs, lentL, idx, List.lookup_nil, List.getElem?_cons_zero, List.getElem?_cons_succ, List.getElem?_nil, List.take_succ_cons, List.take_zero, List.take_nil, List.drop_succ_cons, List.drop_zero, List.drop_nil, List.length_cons, List.length_nil, List.append_nil, List.nil_append, List.cons_append, List.map_cons, List.map_nil, List.set_cons_zero, List.set_cons_succ, List.set_nil, List.all_cons, List.all_nil, List.map_append, Bool.and_true, Bool.true_and, Nat.reduceBEq, Nat.reduceEqDiff, Nat.reduceLT, Nat.reduceLeDiff, Nat.reduceAdd, Nat.reduceMul, Nat.reduceSub, ↓reduceIte, reduceCtorEq, beq_self_eq_true, cond_true, cond_false, true_and, and_true, false_and, and_false, and_self, Option.map_some, Option.map_none, Option.bind_some, Option.bind_none, Option.isSome_some, decide_true, decide_false, decide_eq_true_eq, decide_eq_false_iff_not, beq_iff_eq, bne_iff_ne, beq_eq_false_iff_ne, bne_eq_false_iff_eq, Bool.false_eq_true, eq_self, forall_const, not_true_eq_false, not_false_eq_true, ne_eq, false_implies, implies_true, true_implies, Bool.not_true, Bool.not_false, Nat.zero_add, Nat.le_refl, Nat.add_zero, gt_iff_lt, ge_iff_le, encsP_length, encsV_length, txts_length]
  refine ⟨fun h1 => ?_, fun h1 => ⟨fun h2 => ?_, fun h2 => ⟨fun h3 => ?_, fun h3 => ⟨fun h4 => ?_, fun h4 => ⟨fun h5 => ?_, fun h5 => ⟨fun h6 => ?_, fun h6 => ⟨fun h7 => ?_, fun h7 => ⟨fun h8 => ?_, fun h8 => ?_⟩⟩⟩⟩⟩⟩⟩⟩
  · refine ⟨fun g1 => ?_, fun g1 => ?_⟩ <;>
      (apply vend_of [0, 1, 2, 3]; rfl; rfl; clear ih; refine ⟨a, b, ?_, ?_⟩ <;> simp_all [fitS, vone, bnd])
  · refine ⟨fun g1 => ?_, fun g1 => ?_⟩
    · apply vend_of [0, 1, 2, 3]; rfl; rfl; clear ih; refine ⟨a, b, ?_, ?_⟩ <;> simp_all [fitS, vone, bnd]
    · refine callS [0, 1, 2, 3] (vc_bind s (.mk vk vn vs vkids) l a b (by omega)) rfl rfl rfl ?_
      rintro _ _ ⟨rfl, rfl⟩
      refine ⟨_, _, rfl, ?_⟩
      simp -implicitDefEqProofs only [kn_run, opsB_leaf, opsB_no, opsB_ro, opsB_alt, wp_opsB, opsW_nil, opsW_cons, again_nil, again_cons, obOf_nil, obOf_cons, wadd, ro, List.any_cons, List.any_nil, List.contains_cons, List.contains_nil, Bool.or_true, Bool.true_or, Bool.or_false, Bool.false_or, ob_some, ob_none, vbool_eq, vif_tt, vif_ff, vD_bool, vD_int, vD_str, wp_skip, wp_ops, wp_opsW, wp_both, wp_seq, wp_cond, wp_block, wp_exit, wp_ret, th_normal, th_exit, th_ret, bl_normal, bl_ret, bl_exit, ops_nil, ops_cons, go_none, go_some, cond_tt, cond_ff, put_some, put_none, asB, asL, asI, asFn, opd_tmp, opd_int, opd_bool, opd_str, opd_nils, opd_nilp, opd_nilf, opd_func, so_move, so_assign, so_pick, so_box, so_nilCheck, so_not, so_neg, so_makeFunc, so_extract, so_max, so_min, so_call, lk_cons, nilC_tmp, nilC_int, nilC_bool, nilC_str, nilC_nilp, so_load ti2, so_load ti3, so_load ti9, so_load ti22, so_load ti23, so_load ti25, so_load ti26, so_load ti28, so_build ti25, so_build ti28, so_bin ti2, so_bin ti3, so_bin ti4, so_bin ti9, so_len ti22, so_len ti23, so_len ti26, so_buildSlice ti22 rfl, so_buildSlice ti23 rfl, so_buildSlice ti26 rfl, so_append ti22 rfl, so_append ti23 rfl, so_append ti26 rfl, so_indexAddr ti22 rfl, so_indexAddr ti23 rfl, so_indexAddr ti26 rfl, so_alloc ti22, so_alloc ti25, so_alloc ti26, so_fieldAddr ti25 rfl, so_fieldAddr ti28 rfl, so_store ti22, so_store ti23, so_store ti25, so_store ti26, vload, mkV, vstore, vcells, known, toDs, toD, fzLs, fzL, fzOne, AObj.freeze, splice, vfieldAddr, vindexAddr, vbuild, vfill, vlen, vslice, vbound, opdO, opds, opdPairs, vbin, vint, vstr, visNil, visNilP, vfield, vpick, vrowsOf, vcaps, capOk, vrows, fzVs, vappend, allLen, zok, zrows, vcopy, nil_nils, nil_d, nil_own, arrVer, vundef, gb_b, gb_u, sb_tt, sb_ff, sb_tf, sb_ft, sb_nt, sb_nf, bq_tt, bq_ff, bq_tf, bq_ft, putBack, fzIds, lentVs, lentV, lentLs, lentL, idx, List.lookup_nil, List.getElem?_cons_zero, List.getElem?_cons_succ, List.getElem?_nil, List.take_succ_cons, List.take_zero, List.take_nil, List.drop_succ_cons, List.drop_zero, List.drop_nil, List.length_cons, List.length_nil, List.append_nil, List.nil_append, List.cons_append, List.map_cons, List.map_nil, List.set_cons_zero, List.set_cons_succ, List.set_nil, List.all_cons, List.all_nil, List.map_append, Bool.and_true, Bool.true_and, Nat.reduceBEq, Nat.reduceEqDiff, Nat.reduceLT, Nat.reduceLeDiff, Nat.reduceAdd, Nat.reduceMul, Nat.reduceSub, ↓reduceIte, reduceCtorEq, beq_self_eq_true, cond_true, cond_false, true_and, and_true, false_and, and_false, and_self, Option.map_some, Option.map_none, Option.bind_some, Option.bind_none, Option.isSome_some, decide_true, decide_false, decide_eq_true_eq, decide_eq_false_iff_not, beq_iff_eq, bne_iff_ne, beq_eq_false_iff_ne, bne_eq_false_iff_eq, Bool.false_eq_true, eq_self, forall_const, not_true_eq_false, not_false_eq_true, ne_eq, false_implies, implies_true, true_implies, Bool.not_true, Bool.not_false, Nat.zero_add, Nat.le_refl, Nat.add_zero, gt_iff_lt, ge_iff_le]
      apply vend_of [0, 1, 2, 3]; rfl; rfl; clear ih; refine ⟨a + 1, b + 1, ?_, ?_⟩ <;> simp_all [fitS, vone, bnd]
  iterate 4
    · repeat' (first | (with_reducible apply And.intro) | (intro _))
      all_goals (apply vend_of [0, 1, 2, 3]; rfl; rfl; clear ih; refine ⟨a, b, ?_, ?_⟩ <;> simp_all [fitS, vone, bnd, Va.kind, Va.num])
  · refine ⟨fun g1 => ⟨fun g2 => ⟨fun g3 => ?_, fun g3 => ?_⟩, fun g2 => ?_⟩, fun g1 => ?_⟩
    · match kids, vkids, g1, g3 with
      | [.mk k0 s0 q0 n0 c0, .mk k1 s1 q1 n1 c1], [.mk vk0 vn0 vs0 vc0, .mk vk1 vn1 vs1 vc1], _, _ =>
      generalize hp0 : Pa.mk k0 s0 q0 n0 c0 = p0 at ih hl ⊢
      generalize hp1 : Pa.mk k1 s1 q1 n1 c1 = p1 at ih hl ⊢
      generalize hv0 : Va.mk vk0 vn0 vs0 vc0 = v0
      generalize hv1 : Va.mk vk1 vn1 vs1 vc1 = v1
      have ep0 : encP p0 = [.int .i64 k0, .str s0, .sl (txts q0), .int .i64 n0, .sl (encP.encs c0)] := by rw [← hp0]; rfl
      have ep1 : encP p1 = [.int .i64 k1, .str s1, .sl (txts q1), .int .i64 n1, .sl (encP.encs c1)] := by rw [← hp1]; rfl
      have ev0 : encV v0 = [.int .i64 vk0, .int .i64 vn0, .str vs0, .sl (encV.encs vc0)] := by rw [← hv0]; rfl
      have ev1 : encV v1 = [.int .i64 vk1, .int .i64 vn1, .str vs1, .sl (encV.encs vc1)] := by rw [← hv1]; rfl
      have i0 := ih p0 (by simp) v0 l a b (by simp only [pns] at hl; omega)
      have hb0 := fitS_len p0 v0
      simp only [paV, vaV, ep0, ev0, List.map_cons, List.map_nil] at i0
      simp -implicitDefEqProofs only [kn_run, opsB_leaf, opsB_no, opsB_ro, opsB_alt, wp_opsB, opsW_nil, opsW_cons, again_nil, again_cons, obOf_nil, obOf_cons, wadd, ro, List.any_cons, List.any_nil, List.contains_cons, List.contains_nil, Bool.or_true, Bool.true_or, Bool.or_false, Bool.false_or, ob_some, ob_none, vbool_eq, vif_tt, vif_ff, vD_bool, vD_int, vD_str, wp_skip, wp_ops, wp_opsW, wp_both, wp_seq, wp_cond, wp_block, wp_exit, wp_ret, th_normal, th_exit, th_ret, bl_normal, bl_ret, bl_exit, ops_nil, ops_cons, go_none, go_some, cond_tt, cond_ff, put_some, put_none, asB, asL, asI, asFn, opd_tmp, opd_int, opd_bool, opd_str, opd_nils, opd_nilp, opd_nilf, opd_func, so_move, so_assign, so_pick, so_box, so_nilCheck, so_not, so_neg, so_makeFunc, so_extract, so_max, so_min, so_call, lk_cons, nilC_tmp, nilC_int, nilC_bool, nilC_str, nilC_nilp, so_load ti2, so_load ti3, so_load ti9, so_load ti22, so_load ti23, so_load ti25, so_load ti26, so_load ti28, so_build ti25, so_build ti28, so_bin ti2, so_bin ti3, so_bin ti4, so_bin ti9, so_len ti22, so_len ti23, so_len ti26, so_buildSlice ti22 rfl, so_buildSlice ti23 rfl, so_buildSlice ti26 rfl, so_append ti22 rfl, so_append ti23 rfl, so_append ti26 rfl, so_indexAddr ti22 rfl, so_indexAddr ti23 rfl, so_indexAddr ti26 rfl, so_alloc ti22, so_alloc ti25, so_alloc ti26, so_fieldAddr ti25 rfl, so_fieldAddr ti28 rfl, so_store ti22, so_store ti23, so_store ti25, so_store ti26, vload, mkV, vstore, vcells, known, toDs, toD, fzLs, fzL, fzOne, AObj.freeze, splice, vfieldAddr, vindexAddr, vbuild, vfill, vlen, vslice, vbound, opdO, opds, opdPairs, vbin, vint, vstr, visNil, visNilP, vfield, vpick, vrowsOf, vcaps, capOk, vrows, fzVs, vappend, allLen, zok, zrows, vcopy, nil_nils, nil_d, nil_own, arrVer, vundef, gb_b, gb_u, sb_tt, sb_ff, sb_tf, sb_ft, sb_nt, sb_nf, bq_tt, bq_ff, bq_tf, bq_ft, putBack, fzIds, lentVs, lentV, lentLs, lentL, idx, List.lookup_nil, List.getElem?_cons_zero, List.getElem?_cons_succ, List.getElem?_nil, List.take_succ_cons, List.take_zero, List.take_nil, List.drop_succ_cons, List.drop_zero, List.drop_nil, List.length_cons, List.length_nil, List.append_nil, List.nil_append, List.cons_append, List.map_cons, List.map_nil, List.set_cons_zero, List.set_cons_succ, List.set_nil, List.all_cons, List.all_nil, List.map_append, Bool.and_true, Bool.true_and, Nat.reduceBEq, Nat.reduceEqDiff, Nat.reduceLT, Nat.reduceLeDiff, Nat.reduceAdd, Nat.reduceMul, Nat.reduceSub, ↓reduceIte, reduceCtorEq, beq_self_eq_true, cond_true, cond_false, true_and, and_true, false_and, and_false, and_self, Option.map_some, Option.map_none, Option.bind_some, Option.bind_none, Option.isSome_some, decide_true, decide_false, decide_eq_true_eq, decide_eq_false_iff_not, beq_iff_eq, bne_iff_ne, beq_eq_false_iff_ne, bne_eq_false_iff_eq, Bool.false_eq_true, eq_self, forall_const, not_true_eq_false, not_false_eq_true, ne_eq, false_implies, implies_true, true_implies, Bool.not_true, Bool.not_false, Nat.zero_add, Nat.le_refl, Nat.add_zero, gt_iff_lt, ge_iff_le, encP.encs, encV.encs, ep0, ep1, ev0, ev1, Int.toNat_zero, Int.toNat_one, Int.le_refl, Int.reduceLE]
      refine callS [0, 1, 2, 3] (i0) rfl rfl rfl ?_
      rintro _ _ ⟨a1, b1, rfl, rfl⟩
      refine ⟨_, _, rfl, ?_⟩
      generalize hf0 : fitS p0 v0 = f0 at hb0
      obtain ⟨o0, l0⟩ := f0
      simp only at hb0
      cases o0
      · generalize hl1 : l ++ l0 = l1
        simp -implicitDefEqProofs only [kn_run, opsB_leaf, opsB_no, opsB_ro, opsB_alt, wp_opsB, opsW_nil, opsW_cons, again_nil, again_cons, obOf_nil, obOf_cons, wadd, ro, List.any_cons, List.any_nil, List.contains_cons, List.contains_nil, Bool.or_true, Bool.true_or, Bool.or_false, Bool.false_or, ob_some, ob_none, vbool_eq, vif_tt, vif_ff, vD_bool, vD_int, vD_str, wp_skip, wp_ops, wp_opsW, wp_both, wp_seq, wp_cond, wp_block, wp_exit, wp_ret, th_normal, th_exit, th_ret, bl_normal, bl_ret, bl_exit, ops_nil, ops_cons, go_none, go_some, cond_tt, cond_ff, put_some, put_none, asB, asL, asI, asFn, opd_tmp, opd_int, opd_bool, opd_str, opd_nils, opd_nilp, opd_nilf, opd_func, so_move, so_assign, so_pick, so_box, so_nilCheck, so_not, so_neg, so_makeFunc, so_extract, so_max, so_min, so_call, lk_cons, nilC_tmp, nilC_int, nilC_bool, nilC_str, nilC_nilp, so_load ti2, so_load ti3, so_load ti9, so_load ti22, so_load ti23, so_load ti25, so_load ti26, so_load ti28, so_build ti25, so_build ti28, so_bin ti2, so_bin ti3, so_bin ti4, so_bin ti9, so_len ti22, so_len ti23, so_len ti26, so_buildSlice ti22 rfl, so_buildSlice ti23 rfl, so_buildSlice ti26 rfl, so_append ti22 rfl, so_append ti23 rfl, so_append ti26 rfl, so_indexAddr ti22 rfl, so_indexAddr ti23 rfl, so_indexAddr ti26 rfl, so_alloc ti22, so_alloc ti25, so_alloc ti26, so_fieldAddr ti25 rfl, so_fieldAddr ti28 rfl, so_store ti22, so_store ti23, so_store ti25, so_store ti26, vload, mkV, vstore, vcells, known, toDs, toD, fzLs, fzL, fzOne, AObj.freeze, splice, vfieldAddr, vindexAddr, vbuild, vfill, vlen, vslice, vbound, opdO, opds, opdPairs, vbin, vint, vstr, visNil, visNilP, vfield, vpick, vrowsOf, vcaps, capOk, vrows, fzVs, vappend, allLen, zok, zrows, vcopy, nil_nils, nil_d, nil_own, arrVer, vundef, gb_b, gb_u, sb_tt, sb_ff, sb_tf, sb_ft, sb_nt, sb_nf, bq_tt, bq_ff, bq_tf, bq_ft, putBack, fzIds, lentVs, lentV, lentLs, lentL, idx, List.lookup_nil, List.getElem?_cons_zero, List.getElem?_cons_succ, List.getElem?_nil, List.take_succ_cons, List.take_zero, List.take_nil, List.drop_succ_cons, List.drop_zero, List.drop_nil, List.length_cons, List.length_nil, List.append_nil, List.nil_append, List.cons_append, List.map_cons, List.map_nil, List.set_cons_zero, List.set_cons_succ, List.set_nil, List.all_cons, List.all_nil, List.map_append, Bool.and_true, Bool.true_and, Nat.reduceBEq, Nat.reduceEqDiff, Nat.reduceLT, Nat.reduceLeDiff, Nat.reduceAdd, Nat.reduceMul, Nat.reduceSub, ↓reduceIte, reduceCtorEq, beq_self_eq_true, cond_true, cond_false, true_and, and_true, false_and, and_false, and_self, Option.map_some, Option.map_none, Option.bind_some, Option.bind_none, Option.isSome_some, decide_true, decide_false, decide_eq_true_eq, decide_eq_false_iff_not, beq_iff_eq, bne_iff_ne, beq_eq_false_iff_ne, bne_eq_false_iff_eq, Bool.false_eq_true, eq_self, forall_const, not_true_eq_false, not_false_eq_true, ne_eq, false_implies, implies_true, true_implies, Bool.not_true, Bool.not_false, Nat.zero_add, Nat.le_refl, Nat.add_zero, gt_iff_lt, ge_iff_le, encP.encs, encV.encs, ep0, ep1, ev0, ev1, Int.toNat_zero, Int.toNat_one, Int.le_refl, Int.reduceLE]
        have e : fitS (Pa.mk k s path n [p0, p1]) (Va.mk vk vn vs [v0, v1]) = (false, l0) := by simp [fitS, fitL, Va.kind, Va.kids, h7, g2, hf0]
        rw [e]
        apply vend_of [0, 1, 2, 3]; rfl; rfl
        refine ⟨a1, b1, rfl, ?_⟩
        show _ = bnd (l ++ l0) a1 b1
        rw [hl1]
        rfl
      · generalize hl1 : l ++ l0 = l1
        have i1 := ih p1 (by simp) v1 l1 a1 b1 (by rw [← hl1]; simp only [pns] at hl; simp only [List.length_append]; omega)
        simp only [paV, vaV, ep1, ev1, List.map_cons, List.map_nil] at i1
        simp -implicitDefEqProofs only [kn_run, opsB_leaf, opsB_no, opsB_ro, opsB_alt, wp_opsB, opsW_nil, opsW_cons, again_nil, again_cons, obOf_nil, obOf_cons, wadd, ro, List.any_cons, List.any_nil, List.contains_cons, List.contains_nil, Bool.or_true, Bool.true_or, Bool.or_false, Bool.false_or, ob_some, ob_none, vbool_eq, vif_tt, vif_ff, vD_bool, vD_int, vD_str, wp_skip, wp_ops, wp_opsW, wp_both, wp_seq, wp_cond, wp_block, wp_exit, wp_ret, th_normal, th_exit, th_ret, bl_normal, bl_ret, bl_exit, ops_nil, ops_cons, go_none, go_some, cond_tt, cond_ff, put_some, put_none, asB, asL, asI, asFn, opd_tmp, opd_int, opd_bool, opd_str, opd_nils, opd_nilp, opd_nilf, opd_func, so_move, so_assign, so_pick, so_box, so_nilCheck, so_not, so_neg, so_makeFunc, so_extract, so_max, so_min, so_call, lk_cons, nilC_tmp, nilC_int, nilC_bool, nilC_str, nilC_nilp, so_load ti2, so_load ti3, so_load ti9, so_load ti22, so_load ti23, so_load ti25, so_load ti26, so_load ti28, so_build ti25, so_build ti28, so_bin ti2, so_bin ti3, so_bin ti4, so_bin ti9, so_len ti22, so_len ti23, so_len ti26, so_buildSlice ti22 rfl, so_buildSlice ti23 rfl, so_buildSlice ti26 rfl, so_append ti22 rfl, so_append ti23 rfl, so_append ti26 rfl, so_indexAddr ti22 rfl, so_indexAddr ti23 rfl, so_indexAddr ti26 rfl, so_alloc ti22, so_alloc ti25, so_alloc ti26, so_fieldAddr ti25 rfl, so_fieldAddr ti28 rfl, so_store ti22, so_store ti23, so_store ti25, so_store ti26, vload, mkV, vstore, vcells, known, toDs, toD, fzLs, fzL, fzOne, AObj.freeze, splice, vfieldAddr, vindexAddr, vbuild, vfill, vlen, vslice, vbound, opdO, opds, opdPairs, vbin, vint, vstr, visNil, visNilP, vfield, vpick, vrowsOf, vcaps, capOk, vrows, fzVs, vappend, allLen, zok, zrows, vcopy, nil_nils, nil_d, nil_own, arrVer, vundef, gb_b, gb_u, sb_tt, sb_ff, sb_tf, sb_ft, sb_nt, sb_nf, bq_tt, bq_ff, bq_tf, bq_ft, putBack, fzIds, lentVs, lentV, lentLs, lentL, idx, List.lookup_nil, List.getElem?_cons_zero, List.getElem?_cons_succ, List.getElem?_nil, List.take_succ_cons, List.take_zero, List.take_nil, List.drop_succ_cons, List.drop_zero, List.drop_nil, List.length_cons, List.length_nil, List.append_nil, List.nil_append, List.cons_append, List.map_cons, List.map_nil, List.set_cons_zero, List.set_cons_succ, List.set_nil, List.all_cons, List.all_nil, List.map_append, Bool.and_true, Bool.true_and, Nat.reduceBEq, Nat.reduceEqDiff, Nat.reduceLT, Nat.reduceLeDiff, Nat.reduceAdd, Nat.reduceMul, Nat.reduceSub, ↓reduceIte, reduceCtorEq, beq_self_eq_true, cond_true, cond_false, true_and, and_true, false_and, and_false, and_self, Option.map_some, Option.map_none, Option.bind_some, Option.bind_none, Option.isSome_some, decide_true, decide_false, decide_eq_true_eq, decide_eq_false_iff_not, beq_iff_eq, bne_iff_ne, beq_eq_false_iff_ne, bne_eq_false_iff_eq, Bool.false_eq_true, eq_self, forall_const, not_true_eq_false, not_false_eq_true, ne_eq, false_implies, implies_true, true_implies, Bool.not_true, Bool.not_false, Nat.zero_add, Nat.le_refl, Nat.add_zero, gt_iff_lt, ge_iff_le, encP.encs, encV.encs, ep0, ep1, ev0, ev1, Int.toNat_zero, Int.toNat_one, Int.le_refl, Int.reduceLE]
        refine callS [0, 1, 2, 3] (i1) rfl rfl rfl ?_
        rintro _ _ ⟨a2, b2, rfl, rfl⟩
        refine ⟨_, _, rfl, ?_⟩
        generalize hf1 : fitS p1 v1 = f1
        obtain ⟨o1, l2⟩ := f1
        generalize hl2 : l1 ++ l2 = l3
        simp -implicitDefEqProofs only [kn_run, opsB_leaf, opsB_no, opsB_ro, opsB_alt, wp_opsB, opsW_nil, opsW_cons, again_nil, again_cons, obOf_nil, obOf_cons, wadd, ro, List.any_cons, List.any_nil, List.contains_cons, List.contains_nil, Bool.or_true, Bool.true_or, Bool.or_false, Bool.false_or, ob_some, ob_none, vbool_eq, vif_tt, vif_ff, vD_bool, vD_int, vD_str, wp_skip, wp_ops, wp_opsW, wp_both, wp_seq, wp_cond, wp_block, wp_exit, wp_ret, th_normal, th_exit, th_ret, bl_normal, bl_ret, bl_exit, ops_nil, ops_cons, go_none, go_some, cond_tt, cond_ff, put_some, put_none, asB, asL, asI, asFn, opd_tmp, opd_int, opd_bool, opd_str, opd_nils, opd_nilp, opd_nilf, opd_func, so_move, so_assign, so_pick, so_box, so_nilCheck, so_not, so_neg, so_makeFunc, so_extract, so_max, so_min, so_call, lk_cons, nilC_tmp, nilC_int, nilC_bool, nilC_str, nilC_nilp, so_load ti2, so_load ti3, so_load ti9, so_load ti22, so_load ti23, so_load ti25, so_load ti26, so_load ti28, so_build ti25, so_build ti28, so_bin ti2, so_bin ti3, so_bin ti4, so_bin ti9, so_len ti22, so_len ti23, so_len ti26, so_buildSlice ti22 rfl, so_buildSlice ti23 rfl, so_buildSlice ti26 rfl, so_append ti22 rfl, so_append ti23 rfl, so_append ti26 rfl, so_indexAddr ti22 rfl, so_indexAddr ti23 rfl, so_indexAddr ti26 rfl, so_alloc ti22, so_alloc ti25, so_alloc ti26, so_fieldAddr ti25 rfl, so_fieldAddr ti28 rfl, so_store ti22, so_store ti23, so_store ti25, so_store ti26, vload, mkV, vstore, vcells, known, toDs, toD, fzLs, fzL, fzOne, AObj.freeze, splice, vfieldAddr, vindexAddr, vbuild, vfill, vlen, vslice, vbound, opdO, opds, opdPairs, vbin, vint, vstr, visNil, visNilP, vfield, vpick, vrowsOf, vcaps, capOk, vrows, fzVs, vappend, allLen, zok, zrows, vcopy, nil_nils, nil_d, nil_own, arrVer, vundef, gb_b, gb_u, sb_tt, sb_ff, sb_tf, sb_ft, sb_nt, sb_nf, bq_tt, bq_ff, bq_tf, bq_ft, putBack, fzIds, lentVs, lentV, lentLs, lentL, idx, List.lookup_nil, List.getElem?_cons_zero, List.getElem?_cons_succ, List.getElem?_nil, List.take_succ_cons, List.take_zero, List.take_nil, List.drop_succ_cons, List.drop_zero, List.drop_nil, List.length_cons, List.length_nil, List.append_nil, List.nil_append, List.cons_append, List.map_cons, List.map_nil, List.set_cons_zero, List.set_cons_succ, List.set_nil, List.all_cons, List.all_nil, List.map_append, Bool.and_true, Bool.true_and, Nat.reduceBEq, Nat.reduceEqDiff, Nat.reduceLT, Nat.reduceLeDiff, Nat.reduceAdd, Nat.reduceMul, Nat.reduceSub, ↓reduceIte, reduceCtorEq, beq_self_eq_true, cond_true, cond_false, true_and, and_true, false_and, and_false, and_self, Option.map_some, Option.map_none, Option.bind_some, Option.bind_none, Option.isSome_some, decide_true, decide_false, decide_eq_true_eq, decide_eq_false_iff_not, beq_iff_eq, bne_iff_ne, beq_eq_false_iff_ne, bne_eq_false_iff_eq, Bool.false_eq_true, eq_self, forall_const, not_true_eq_false, not_false_eq_true, ne_eq, false_implies, implies_true, true_implies, Bool.not_true, Bool.not_false, Nat.zero_add, Nat.le_refl, Nat.add_zero, gt_iff_lt, ge_iff_le]
        have e : fitS (Pa.mk k s path n [p0, p1]) (Va.mk vk vn vs [v0, v1]) = (o1, l0 ++ l2) := by cases o1 <;> simp [fitS, fitL, Va.kind, Va.kids, h7, g2, hf0, hf1]
        rw [e]
        apply vend_of [0, 1, 2, 3]; rfl; rfl
        refine ⟨a2, b2, rfl, ?_⟩
        show _ = bnd (l ++ (l0 ++ l2)) a2 b2
        rw [← List.append_assoc, hl1, hl2]
        rfl
    · have g3' : vkids.length ≠ 2 := by omega
      (apply vend_of [0, 1, 2, 3]; rfl; rfl; clear ih; refine ⟨a, b, ?_, ?_⟩ <;> simp_all [fitS, vone, bnd, Va.kind, Va.num, Va.kids, Va.name])
    · (apply vend_of [0, 1, 2, 3]; rfl; rfl; clear ih; refine ⟨a, b, ?_, ?_⟩ <;> simp_all [fitS, vone, bnd, Va.kind, Va.num, Va.kids, Va.name])
    · have g1' : kids.length ≠ 2 := by omega
      (apply vend_of [0, 1, 2, 3]; rfl; rfl; clear ih; refine ⟨a, b, ?_, ?_⟩ <;> simp_all [fitS, vone, bnd, Va.kind, Va.num, Va.kids, Va.name])
  · refine ⟨fun g1 => ?_, fun g1 => ⟨fun g2 => ?_, fun g2 => ?_⟩⟩
    · (apply vend_of [0, 1, 2, 3]; rfl; rfl; clear ih; refine ⟨a, b, ?_, ?_⟩ <;> simp_all [fitS, vone, bnd, Va.kind, Va.num, Va.kids, Va.name])
    · (apply vend_of [0, 1, 2, 3]; rfl; rfl; clear ih; refine ⟨a, b, ?_, ?_⟩ <;> simp_all [fitS, vone, bnd, Va.kind, Va.num, Va.kids, Va.name])
    · have hwp : IntKind.i64.wrap ((path.length : Int) - 1) = ((path.length - 1 : Nat) : Int) := by rw [IntKind.wrap_i64]; omega
      obtain ⟨t0, ht0⟩ : ∃ t0, path[path.length - 1]? = some t0 := ⟨path[path.length - 1]'(by omega), List.getElem?_eq_getElem (by omega)⟩
      have hrow : (txts path)[path.length - 1]? = some [.str t0] := by simp [txts, ht0]
      simp -implicitDefEqProofs only [kn_run, opsB_leaf, opsB_no, opsB_ro, opsB_alt, wp_opsB, opsW_nil, opsW_cons, again_nil, again_cons, obOf_nil, obOf_cons, wadd, ro, List.any_cons, List.any_nil, List.contains_cons, List.contains_nil, Bool.or_true, Bool.true_or, Bool.or_false, Bool.false_or, ob_some, ob_none, vbool_eq, vif_tt, vif_ff, vD_bool, vD_int, vD_str, wp_skip, wp_ops, wp_opsW, wp_both, wp_seq, wp_cond, wp_block, wp_exit, wp_ret, th_normal, th_exit, th_ret, bl_normal, bl_ret, bl_exit, ops_nil, ops_cons, go_none, go_some, cond_tt, cond_ff, put_some, put_none, asB, asL, asI, asFn, opd_tmp, opd_int, opd_bool, opd_str, opd_nils, opd_nilp, opd_nilf, opd_func, so_move, so_assign, so_pick, so_box, so_nilCheck, so_not, so_neg, so_makeFunc, so_extract, so_max, so_min, so_call, lk_cons, nilC_tmp, nilC_int, nilC_bool, nilC_str, nilC_nilp, so_load ti2, so_load ti3, so_load ti9, so_load ti22, so_load ti23, so_load ti25, so_load ti26, so_load ti28, so_build ti25, so_build ti28, so_bin ti2, so_bin ti3, so_bin ti4, so_bin ti9, so_len ti22, so_len ti23, so_len ti26, so_buildSlice ti22 rfl, so_buildSlice ti23 rfl, so_buildSlice ti26 rfl, so_append ti22 rfl, so_append ti23 rfl, so_append ti26 rfl, so_indexAddr ti22 rfl, so_indexAddr ti23 rfl, so_indexAddr ti26 rfl, so_alloc ti22, so_alloc ti25, so_alloc ti26, so_fieldAddr ti25 rfl, so_fieldAddr ti28 rfl, so_store ti22, so_store ti23, so_store ti25, so_store ti26, vload, mkV, vstore, vcells, known, toDs, toD, fzLs, fzL, fzOne, AObj.freeze, splice, vfieldAddr, vindexAddr, vbuild, vfill, vlen, vslice, vbound, opdO, opds, opdPairs, vbin, vint, vstr, visNil, visNilP, vfield, vpick, vrowsOf, vcaps, capOk, vrows, fzVs, vappend, allLen, zok, zrows, vcopy, nil_nils, nil_d, nil_own, arrVer, vundef, gb_b, gb_u, sb_tt, sb_ff, sb_tf, sb_ft, sb_nt, sb_nf, bq_tt, bq_ff, bq_tf, bq_ft, putBack, fzIds, lentVs, lentV, lentLs, lentL, idx, List.lookup_nil, List.getElem?_cons_zero, List.getElem?_cons_succ, List.getElem?_nil, List.take_succ_cons, List.take_zero, List.take_nil, List.drop_succ_cons, List.drop_zero, List.drop_nil, List.length_cons, List.length_nil, List.append_nil, List.nil_append, List.cons_append, List.map_cons, List.map_nil, List.set_cons_zero, List.set_cons_succ, List.set_nil, List.all_cons, List.all_nil, List.map_append, Bool.and_true, Bool.true_and, Nat.reduceBEq, Nat.reduceEqDiff, Nat.reduceLT, Nat.reduceLeDiff, Nat.reduceAdd, Nat.reduceMul, Nat.reduceSub, ↓reduceIte, reduceCtorEq, beq_self_eq_true, cond_true, cond_false, true_and, and_true, false_and, and_false, and_self, Option.map_some, Option.map_none, Option.bind_some, Option.bind_none, Option.isSome_some, decide_true, decide_false, decide_eq_true_eq, decide_eq_false_iff_not, beq_iff_eq, bne_iff_ne, beq_eq_false_iff_ne, bne_eq_false_iff_eq, Bool.false_eq_true, eq_self, forall_const, not_true_eq_false, not_false_eq_true, ne_eq, false_implies, implies_true, true_implies, Bool.not_true, Bool.not_false, Nat.zero_add, Nat.le_refl, Nat.add_zero, gt_iff_lt, ge_iff_le, hwp, hrow, Int.natCast_nonneg, Int.toNat_natCast, encsP_length, encsV_length]
      have hlast : path.getLast? = some t0 := by rw [List.getLast?_eq_getElem?]; exact ht0
      have hne : path ≠ [] := by rintro rfl; simp at g2
      refine ⟨fun g3 => ?_, fun g3 => ⟨fun g4 => ?_, fun g4 => ⟨fun g5 => ?_, fun g5 => ⟨fun g6 => ?_, fun g6 => ?_⟩⟩⟩⟩
      · have e : fitS (Pa.mk k s path n kids) (Va.mk vk vn vs vkids) = (false, []) := by
          simp only [fitS]
          rw [if_neg h1, if_neg h2, if_neg h3, if_neg h4, if_neg h5, if_neg h6, if_neg h7, if_pos h8, if_neg (by rintro ⟨_, _, q1, q2, q3⟩; simp only [Va.name, hlast, Option.some.injEq] at q1; simp [q1] at g3)]
        rw [e]
        apply vend_of [0, 1, 2, 3]; rfl; rfl
        exact ⟨a, b, rfl, by rw [List.append_nil]; rfl⟩
      · have e : fitS (Pa.mk k s path n kids) (Va.mk vk vn vs vkids) = (false, []) := by
          simp only [fitS]
          rw [if_neg h1, if_neg h2, if_neg h3, if_neg h4, if_neg h5, if_neg h6, if_neg h7, if_pos h8, if_neg (by rintro ⟨_, _, q1, q2, q3⟩; omega)]
        rw [e]
        apply vend_of [0, 1, 2, 3]; rfl; rfl
        exact ⟨a, b, rfl, by rw [List.append_nil]; rfl⟩
      · have e : fitS (Pa.mk k s path n kids) (Va.mk vk vn vs vkids) = (false, []) := by
          simp only [fitS]
          rw [if_neg h1, if_neg h2, if_neg h3, if_neg h4, if_neg h5, if_neg h6, if_neg h7, if_pos h8, if_neg (by rintro ⟨_, _, q1, q2, q3⟩; simp only [Va.kids] at q3; omega)]
        rw [e]
        apply vend_of [0, 1, 2, 3]; rfl; rfl
        exact ⟨a, b, rfl, by rw [List.append_nil]; rfl⟩
      · have hk0 : kids = [] := List.eq_nil_of_length_eq_zero (by omega)
        have hv0 : vkids = [] := List.eq_nil_of_length_eq_zero (by omega)
        subst hk0; subst hv0
        have e : fitS (Pa.mk k s path n []) (Va.mk vk vn vs []) = (true, []) := by
          have g3' : vs = t0 := by simpa using g3
          simp only [fitS]
          rw [if_neg h1, if_neg h2, if_neg h3, if_neg h4, if_neg h5, if_neg h6, if_neg h7, if_pos h8, if_pos ⟨g1, hne, by rw [hlast]; simp [Va.name, g3'], by simp, by simp [Va.kids]⟩]
          simp [fitL, Va.kids]
        rw [e]
        apply vend_of [0, 1, 2, 3]; rfl; rfl
        exact ⟨a, b, rfl, by rw [List.append_nil]; rfl⟩
      · have hk1 : kids.length = 1 := by omega
        have hv1 : vkids.length = 1 := by omega
        match kids, vkids, hk1, hv1 with
        | [.mk k0 s0 q0 n0 c0], [.mk vk0 vn0 vs0 vc0], _, _ =>
        generalize hp0 : Pa.mk k0 s0 q0 n0 c0 = p0 at ih hl ⊢
        generalize hv0 : Va.mk vk0 vn0 vs0 vc0 = v0
        have ep0 : encP p0 = [.int .i64 k0, .str s0, .sl (txts q0), .int .i64 n0, .sl (encP.encs c0)] := by rw [← hp0]; rfl
        have ev0 : encV v0 = [.int .i64 vk0, .int .i64 vn0, .str vs0, .sl (encV.encs vc0)] := by rw [← hv0]; rfl
        have i0 := ih p0 (by simp) v0 l a b (by simp only [pns] at hl; omega)
        simp only [paV, vaV, ep0, ev0, List.map_cons, List.map_nil] at i0
        simp -implicitDefEqProofs only [kn_run, opsB_leaf, opsB_no, opsB_ro, opsB_alt, wp_opsB, opsW_nil, opsW_cons, again_nil, again_cons, obOf_nil, obOf_cons, wadd, ro, List.any_cons, List.any_nil, List.contains_cons, List.contains_nil, Bool.or_true, Bool.true_or, Bool.or_false, Bool.false_or, ob_some, ob_none, vbool_eq, vif_tt, vif_ff, vD_bool, vD_int, vD_str, wp_skip, wp_ops, wp_opsW, wp_both, wp_seq, wp_cond, wp_block, wp_exit, wp_ret, th_normal, th_exit, th_ret, bl_normal, bl_ret, bl_exit, ops_nil, ops_cons, go_none, go_some, cond_tt, cond_ff, put_some, put_none, asB, asL, asI, asFn, opd_tmp, opd_int, opd_bool, opd_str, opd_nils, opd_nilp, opd_nilf, opd_func, so_move, so_assign, so_pick, so_box, so_nilCheck, so_not, so_neg, so_makeFunc, so_extract, so_max, so_min, so_call, lk_cons, nilC_tmp, nilC_int, nilC_bool, nilC_str, nilC_nilp, so_load ti2, so_load ti3, so_load ti9, so_load ti22, so_load ti23, so_load ti25, so_load ti26, so_load ti28, so_build ti25, so_build ti28, so_bin ti2, so_bin ti3, so_bin ti4, so_bin ti9, so_len ti22, so_len ti23, so_len ti26, so_buildSlice ti22 rfl, so_buildSlice ti23 rfl, so_buildSlice ti26 rfl, so_append ti22 rfl, so_append ti23 rfl, so_append ti26 rfl, so_indexAddr ti22 rfl, so_indexAddr ti23 rfl, so_indexAddr ti26 rfl, so_alloc ti22, so_alloc ti25, so_alloc ti26, so_fieldAddr ti25 rfl, so_fieldAddr ti28 rfl, so_store ti22, so_store ti23, so_store ti25, so_store ti26, vload, mkV, vstore, vcells, known, toDs, toD, fzLs, fzL, fzOne, AObj.freeze, splice, vfieldAddr, vindexAddr, vbuild, vfill, vlen, vslice, vbound, opdO, opds, opdPairs, vbin, vint, vstr, visNil, visNilP, vfield, vpick, vrowsOf, vcaps, capOk, vrows, fzVs, vappend, allLen, zok, zrows, vcopy, nil_nils, nil_d, nil_own, arrVer, vundef, gb_b, gb_u, sb_tt, sb_ff, sb_tf, sb_ft, sb_nt, sb_nf, bq_tt, bq_ff, bq_tf, bq_ft, putBack, fzIds, lentVs, lentV, lentLs, lentL, idx, List.lookup_nil, List.getElem?_cons_zero, List.getElem?_cons_succ, List.getElem?_nil, List.take_succ_cons, List.take_zero, List.take_nil, List.drop_succ_cons, List.drop_zero, List.drop_nil, List.length_cons, List.length_nil, List.append_nil, List.nil_append, List.cons_append, List.map_cons, List.map_nil, List.set_cons_zero, List.set_cons_succ, List.set_nil, List.all_cons, List.all_nil, List.map_append, Bool.and_true, Bool.true_and, Nat.reduceBEq, Nat.reduceEqDiff, Nat.reduceLT, Nat.reduceLeDiff, Nat.reduceAdd, Nat.reduceMul, Nat.reduceSub, ↓reduceIte, reduceCtorEq, beq_self_eq_true, cond_true, cond_false, true_and, and_true, false_and, and_false, and_self, Option.map_some, Option.map_none, Option.bind_some, Option.bind_none, Option.isSome_some, decide_true, decide_false, decide_eq_true_eq, decide_eq_false_iff_not, beq_iff_eq, bne_iff_ne, beq_eq_false_iff_ne, bne_eq_false_iff_eq, Bool.false_eq_true, eq_self, forall_const, not_true_eq_false, not_false_eq_true, ne_eq, false_implies, implies_true, true_implies, Bool.not_true, Bool.not_false, Nat.zero_add, Nat.le_refl, Nat.add_zero, gt_iff_lt, ge_iff_le, encP.encs, encV.encs, ep0, ev0, Int.toNat_zero, Int.le_refl, Int.reduceLE]
        refine callS [0, 1, 2, 3] (i0) rfl rfl rfl ?_
        rintro _ _ ⟨a1, b1, rfl, rfl⟩
        refine ⟨_, _, rfl, ?_⟩
        have e : fitS (Pa.mk k s path n [p0]) (Va.mk vk vn vs [v0]) = fitS p0 v0 := by
          have g3' : vs = t0 := by simpa using g3
          simp only [fitS]
          rw [if_neg h1, if_neg h2, if_neg h3, if_neg h4, if_neg h5, if_neg h6, if_neg h7, if_pos h8, if_pos ⟨g1, hne, by rw [hlast]; simp [Va.name, g3'], by simp, by simp [Va.kids]⟩]
          simp only [fitL, Va.kids]
          generalize fitS p0 v0 = f0
          obtain ⟨o0, l0⟩ := f0
          cases o0 <;> simp
        rw [e]
        generalize fitS p0 v0 = f0
        obtain ⟨o0, l0⟩ := f0
        simp only
        generalize hl1 : l ++ l0 = l1
        simp -implicitDefEqProofs only [kn_run, opsB_leaf, opsB_no, opsB_ro, opsB_alt, wp_opsB, opsW_nil, opsW_cons, again_nil, again_cons, obOf_nil, obOf_cons, wadd, ro, List.any_cons, List.any_nil, List.contains_cons, List.contains_nil, Bool.or_true, Bool.true_or, Bool.or_false, Bool.false_or, ob_some, ob_none, vbool_eq, vif_tt, vif_ff, vD_bool, vD_int, vD_str, wp_skip, wp_ops, wp_opsW, wp_both, wp_seq, wp_cond, wp_block, wp_exit, wp_ret, th_normal, th_exit, th_ret, bl_normal, bl_ret, bl_exit, ops_nil, ops_cons, go_none, go_some, cond_tt, cond_ff, put_some, put_none, asB, asL, asI, asFn, opd_tmp, opd_int, opd_bool, opd_str, opd_nils, opd_nilp, opd_nilf, opd_func, so_move, so_assign, so_pick, so_box, so_nilCheck, so_not, so_neg, so_makeFunc, so_extract, so_max, so_min, so_call, lk_cons, nilC_tmp, nilC_int, nilC_bool, nilC_str, nilC_nilp, so_load ti2, so_load ti3, so_load ti9, so_load ti22, so_load ti23, so_load ti25, so_load ti26, so_load ti28, so_build ti25, so_build ti28, so_bin ti2, so_bin ti3, so_bin ti4, so_bin ti9, so_len ti22, so_len ti23, so_len ti26, so_buildSlice ti22 rfl, so_buildSlice ti23 rfl, so_buildSlice ti26 rfl, so_append ti22 rfl, so_append ti23 rfl, so_append ti26 rfl, so_indexAddr ti22 rfl, so_indexAddr ti23 rfl, so_indexAddr ti26 rfl, so_alloc ti22, so_alloc ti25, so_alloc ti26, so_fieldAddr ti25 rfl, so_fieldAddr ti28 rfl, so_store ti22, so_store ti23, so_store ti25, so_store ti26, vload, mkV, vstore, vcells, known, toDs, toD, fzLs, fzL, fzOne, AObj.freeze, splice, vfieldAddr, vindexAddr, vbuild, vfill, vlen, vslice, vbound, opdO, opds, opdPairs, vbin, vint, vstr, visNil, visNilP, vfield, vpick, vrowsOf, vcaps, capOk, vrows, fzVs, vappend, allLen, zok, zrows, vcopy, nil_nils, nil_d, nil_own, arrVer, vundef, gb_b, gb_u, sb_tt, sb_ff, sb_tf, sb_ft, sb_nt, sb_nf, bq_tt, bq_ff, bq_tf, bq_ft, putBack, fzIds, lentVs, lentV, lentLs, lentL, idx, List.lookup_nil, List.getElem?_cons_zero, List.getElem?_cons_succ, List.getElem?_nil, List.take_succ_cons, List.take_zero, List.take_nil, List.drop_succ_cons, List.drop_zero, List.drop_nil, List.length_cons, List.length_nil, List.append_nil, List.nil_append, List.cons_append, List.map_cons, List.map_nil, List.set_cons_zero, List.set_cons_succ, List.set_nil, List.all_cons, List.all_nil, List.map_append, Bool.and_true, Bool.true_and, Nat.reduceBEq, Nat.reduceEqDiff, Nat.reduceLT, Nat.reduceLeDiff, Nat.reduceAdd, Nat.reduceMul, Nat.reduceSub, ↓reduceIte, reduceCtorEq, beq_self_eq_true, cond_true, cond_false, true_and, and_true, false_and, and_false, and_self, Option.map_some, Option.map_none, Option.bind_some, Option.bind_none, Option.isSome_some, decide_true, decide_false, decide_eq_true_eq, decide_eq_false_iff_not, beq_iff_eq, bne_iff_ne, beq_eq_false_iff_ne, bne_eq_false_iff_eq, Bool.false_eq_true, eq_self, forall_const, not_true_eq_false, not_false_eq_true, ne_eq, false_implies, implies_true, true_implies, Bool.not_true, Bool.not_false, Nat.zero_add, Nat.le_refl, Nat.add_zero, gt_iff_lt, ge_iff_le]
        apply vend_of [0, 1, 2, 3]; rfl; rfl
        exact ⟨a1, b1, rfl, rfl⟩
  · (apply vend_of [0, 1, 2, 3]; rfl; rfl; clear ih; refine ⟨a, b, ?_, ?_⟩ <;> simp_all [fitS, vone, bnd, Va.kind, Va.num, Va.kids, Va.name])

end Go.Vt.Tryz
