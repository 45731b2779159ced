/- Own framework, part 6: an operation is sound. -/
import Derived.Test.YthbfemghbckipaaGreatVtVop
namespace Go.Vt
variable {P : Program} {w : World} {μ : Pl} {h : AHeap} {T : Sl} {a : Act}

theorem Yields.val {m : Sem Value} {v : V} {x : Value} (H : HRep w μ h) (hr : m.run P w = .ok x w) (hx : RepV w μ h v x) : Yields P w μ h (do pure (.value (← m))) v h :=
  Yields.same H hx (by simp [hr, Result.andThen])

theorem opds_rep (s : SRep w μ h T a) : ∀ {ps : List Operand} {vs : List V}, opds T ps = some vs → vs.length = ps.length ∧ ∀ (j : Nat) (v : V) (q : Operand), vs[j]? = some v → ps[j]? = some q → RepV w μ h v (a.eval q)
  | [], vs, hv => by cases hv; exact ⟨rfl, by simp⟩
  | x :: r, vs, hv => by
    unfold opds at hv
    split at hv
    · rename_i v vs' hx hr
      cases hv
      obtain ⟨h1, h2⟩ := opds_rep s hr
      refine ⟨by simp [h1], ?_⟩
      intro j v' q hj hq
      cases j with
      | zero => simp at hj hq; subst hj; subst hq; exact opd_rep s hx
      | succ j => exact h2 j v' q (by simpa using hj) (by simpa using hq)
    · cases hv

theorem vcaps_get : ∀ {vs : List V} {ls : List L}, vcaps vs = some ls → vs = ls.map .one
  | [], ls, hv => by cases hv; rfl
  | v :: r, ls, hv => by
    cases v with
    | one l =>
      unfold vcaps at hv
      split at hv
      · rename_i ls' hr; cases hv; rw [vcaps_get hr]; rfl
      · cases hv
    | agg _ => cases hv
    | tup _ => cases hv

theorem RepV.l {l : L} {x : Value} (hx : RepV w μ h (.one l) x) : RepL w μ h l x := by
  cases hx with
  | one _ hl => exact hl
  | top => exact .any

theorem RepV.int {k : IntKind} {n : Int} {x : Value} (hx : RepV w μ h (.one (.d (.int k n))) x) : x = .int k n := by
  cases hx with | one _ hx => cases hx with | d hx => cases hx with | int => rfl
theorem RepV.bool {b : Bool} {x : Value} (hx : RepV w μ h (.one (.d (.bool b))) x) : x = .bool b := by
  cases hx with | one _ hx => cases hx with | d hx => cases hx with | bool => rfl
theorem RepV.str {b : ByteArray} {x : Value} (hx : RepV w μ h (.one (.d (.str b))) x) : x = .string b := by
  cases hx with | one _ hx => cases hx with | d hx => cases hx with | str => rfl

theorem vbound_run (T : Sl) (s : SRep w μ h T a) {x : Option Operand} {l : Option V} (hx : opdO T x = some l) {n y : Nat} (d : Nat) (hn : vbound d l = some n) (hle : n ≤ y) (code : BoundsCode) :
    (∃ v, x.map a.eval = some v ∧ (Instr.sliceBound v y code).run P w = .ok n w) ∨ (x.map a.eval = none ∧ n = d) := by
  cases x with
  | none => cases hx; cases hn; exact .inr ⟨rfl, rfl⟩
  | some x =>
    unfold opdO at hx
    simp only at hx
    split at hx
    · rename_i v hv
      cases hx
      unfold vbound at hn
      split at hn
      · rename_i heq; cases heq
      · rename_i k n' heq
        cases heq
        split at hn
        · rename_i h0
          cases hn
          have := (opd_rep s hv).int
          refine .inl ⟨_, rfl, ?_⟩
          rw [this]
          exact run_sliceBound w k n' y code h0 (by omega)
        · cases hn
      · cases hn
    · cases hx

theorem sliceBounds_run (T : Sl) (s : SRep w μ h T a) {lo hi : Option Operand} {l k : Option V} (hlo : opdO T lo = some l) (hhi : opdO T hi = some k) {n m len cap : Nat} (isS : Bool)
    (hl : vbound 0 l = some n) (hk : vbound len k = some m) (h1 : n ≤ m) (h2 : m ≤ len) (h3 : len ≤ cap) :
    (Instr.sliceBounds isS len cap (lo.map a.eval) (hi.map a.eval) none).run P w = .ok (n, m, cap) w := by
  have b1 := fun code => vbound_run (P := P) (w := w) T s hlo (y := m) 0 hl h1 code
  have b2 := fun code => vbound_run (P := P) (w := w) T s hhi (y := cap) len hk (by omega) code
  unfold Instr.sliceBounds
  rcases b2 (if isS then .sliceAcap else .sliceAlen) with ⟨v2, e2, r2⟩ | ⟨e2, rfl⟩ <;> rcases b1 .sliceB with ⟨v1, e1, r1⟩ | ⟨e1, rfl⟩
  · simp only [e1, e2, Sem.run_bind, Sem.run_pure, Result.andThen, r2, Option.isSome_none, Bool.false_eq_true, if_false, r1]
  · simp only [e1, e2, Sem.run_bind, Sem.run_pure, Result.andThen, r2]
  · simp only [e1, e2, Sem.run_bind, Sem.run_pure, Result.andThen, Option.isSome_none, Bool.false_eq_true, if_false, r1]
  · simp only [e1, e2, Sem.run_bind, Sem.run_pure, Result.andThen]

theorem allLen_get {n : Nat} {xs : List (List D)} (ha : allLen n xs = true) {i : Nat} {e : List D} (hi : xs[i]? = some e) : e.length = n := by
  have := List.all_eq_true.1 ha e (List.mem_of_getElem? hi)
  simpa using this

theorem sliced_zero (b m cap sz : Nat) : sliced (some ⟨b, 0, none⟩) 0 m cap sz = .slice (some ⟨b, 0, none⟩) m cap := by
  unfold sliced
  split <;> simp [Addr.add]

theorem vslice_sound {t : TypeId} {i : TI} (ht : ti P t = some i) (s : SRep w μ h T a) {v u : V} {x : Value} (hx : RepV w μ h v x) {lo hi : Option Operand} {l k : Option V} (hlo : opdO T lo = some l) (hhi : opdO T hi = some k)
    (hv : vslice h i.kd i.el v l k = some u) : ∃ y, (Instr.sliceAt t x (lo.map a.eval) (hi.map a.eval) none).run P w = .ok y w ∧ RepV w μ h u y := by
  obtain ⟨I, d, h1, h2, h3, h4, h5, h6, h7, h8, h9, h10⟩ := ti_spec ht
  unfold vslice at hv
  split at hv
  · rename_i xs hkd
    split at hv
    · rename_i n m e hn hm hel
      split at hv
      · rename_i hc
        obtain ⟨c1, c2, c3⟩ := hc
        cases hv
        rw [h7] at hkd
        obtain ⟨et, rfl⟩ := kd_slice hkd
        have hE : eiOf P et = some e := by rw [← h9 et rfl]; exact hel
        have het : P.elem t = et := by simp [Program.elem, h2]
        have ht' : P.underlying t = some (.slice (P.elem t)) := by rw [het]; exact h2
        have run : ∀ (A : Option Addr) (len cap : Nat), xs.length = len → len ≤ cap → (Instr.sliceAt t (.slice A len cap) (lo.map a.eval) (hi.map a.eval) none).run P w = .ok (sliced A n m cap e.size) w := by
          intro A len cap el hcap
          rw [run_sliceAt_slice w t _ _ _ _ ht', run_slice_any w t A len cap ht', sliceBounds_run T s hlo hhi true hn (by rw [← el]; exact hm) c1 (by omega) hcap, het]
          simp only [Result.andThen, ei_sizeOf hE]
        cases hx with | one _ hx => cases hx with | d hx => cases hx with
        | sl0 A cap =>
          refine ⟨_, run A 0 cap rfl (Nat.zero_le _), ?_⟩
          simp at c2
          have e1 : n = 0 := by omega
          subst e1; subst c2
          exact .one rfl (.d (by simpa [sliced] using RepD.sl0 _ _))
        | sl sz _ b off cap vs hne hb hlt hcap hlen hcell hd =>
          refine ⟨_, run _ _ cap rfl hcap, ?_⟩
          unfold sliced
          by_cases hnm : n = m
          · subst hnm
            have : (xs.take n).drop n = [] := by simp
            rw [this, Nat.sub_self]
            exact .one rfl (.d (.sl0 _ _))
          · rw [if_neg (by omega)]
            simp only [Option.map_some, add_lit]
            have hlen' : ((xs.take m).drop n).length = m - n := by simp; omega
            have hget : ∀ {q : Nat} {el : List D}, ((xs.take m).drop n)[q]? = some el → xs[n + q]? = some el := by
              intro q el hq
              have hlt' : q < m - n := by have := (List.getElem?_eq_some_iff.1 hq).1; omega
              rw [List.getElem?_drop, List.getElem?_take_of_lt (by omega)] at hq
              exact hq
            have hstep : n * e.size = n * sz := by
              rcases c3 with rfl | c3
              · simp
              · have hx0 : 0 < xs.length := by omega
                have e1 := hlen 0 _ (List.getElem?_eq_getElem hx0)
                have e2 := allLen_get c3 (List.getElem?_eq_getElem hx0)
                rw [← e1, ← e2]
            have := RepD.sl (w := w) (M := Mut μ h) sz ((xs.take m).drop n) b (off + n * sz) (cap - n) (fun i j => vs (n + i) j) (by intro hh; rw [hh] at hlen'; simp at hlen'; omega) hb hlt (by omega)
              (fun q el hq => hlen _ _ (hget hq))
              (fun q j el y hq hj => by
                have := hcell _ _ _ _ (hget hq) hj
                rw [← this, Nat.add_mul]; congr 2; omega)
              (fun q j el y hq hj => hd _ _ _ _ (hget hq) hj)
            rw [hlen'] at this
            rw [hstep]
            exact .one rfl (.d this)
      · cases hv
    · cases hv
  · rename_i id ver len hkd
    split at hv
    · rename_i m fz sz ver' xs e hm hid hel
      split at hv
      · rename_i hc
        obtain ⟨c1, rfl⟩ := hc
        cases hv
        rw [h7] at hkd
        obtain ⟨et, rfl⟩ := kd_slice hkd
        have hE : eiOf P et = some e := by rw [← h9 et rfl]; exact hel
        have het : P.elem t = et := by simp [Program.elem, h2]
        have ht' : P.underlying t = some (.slice (P.elem t)) := by rw [het]; exact h2
        have run : ∀ (A : Option Addr) (cap : Nat), len ≤ cap → (Instr.sliceAt t (.slice A len cap) (lo.map a.eval) (hi.map a.eval) none).run P w = .ok (sliced A 0 m cap e.size) w := by
          intro A cap hcap
          rw [run_sliceAt_slice w t _ _ _ _ ht', run_slice_any w t A len cap ht', sliceBounds_run T s hlo hhi true (n := 0) rfl hm (Nat.zero_le _) c1 hcap, het]
          simp only [Result.andThen, ei_sizeOf hE]
        cases hx with | one _ hx =>
        cases hx with
        | own hid' hl hμ hcap hb hcs =>
          refine ⟨_, run _ _ hcap, ?_⟩
          rw [sliced_zero]
          exact .one rfl (.own hid' (Nat.le_trans c1 hl) hμ (Nat.le_trans c1 hcap) hb hcs)
        | ownNil hid' hμ =>
          refine ⟨_, run _ _ (Nat.le_refl _), ?_⟩
          have e0 : m = 0 := by omega
          subst e0
          exact .one rfl (by simpa [sliced] using RepL.ownNil hid' hμ)
        | ownOld hid' hv => rw [hid] at hid'; cases hid'; omega
        | ownDead hid' => rw [hid] at hid'; cases hid'
      · cases hv
    · cases hv
  · rename_i str hkd
    split at hv
    · rename_i n m hn hm
      split at hv
      · rename_i hc
        cases hv
        rw [h7] at hkd
        have := kd_str hkd; subst this
        cases hx with | one _ hx => cases hx with | d hx => cases hx with
        | str =>
        refine ⟨_, ?_, .one rfl (.d (.str _))⟩
        rw [run_sliceAt_string w t _ _ _ _ h2]
        unfold Instr.slice
        simp only [Sem.run_bind, run_underlying h2, Result.andThen]
        simp [sliceBounds_run T s hlo hhi false hn hm hc.1 hc.2 (Nat.le_refl _), Result.andThen]
      · cases hv
    · cases hv
  · cases hv

theorem vfield_sound {t : TypeId} {i : TI} (ht : ti P t = some i) {f : Nat} {v u : V} {x : Value} (hx : RepV w μ h v x) (hv : vfield i f v = some u) : ∃ y, (Instr.field t x f).run P w = .ok y w ∧ RepV w μ h u y := by
  obtain ⟨I, d, h1, h2, h3, h4, h5, h6, h7, h8, h9, h10⟩ := ti_spec ht
  unfold vfield at hv
  split at hv
  · rename_i ls
    split at hv
    · rename_i F hk hF
      split at hv
      · rename_i hc
        rw [h7] at hk
        obtain ⟨fs, rfl⟩ := kd_struct hk
        obtain ⟨FF, hF1, hF2⟩ := flds_get (h8 fs rfl) hF
        obtain ⟨IF, dF, hF3, hF4, rfl⟩ := fld_spec hF2
        simp only at hc hv
        have hF1' : fs[f]? = some FF := by simpa using hF1
        cases hx with
        | @agg _ cs e1 e2 e3 =>
          have hs : (sizeOf FF.type).run P w = .ok IF.size w := by simp [sizeOf, typeInfo, hF3, Result.andThen]
          have hagg : (isAgg FF.type).run P w = .ok (descAgg dF) w := by
            simp only [isAgg, Sem.run_bind, run_underlying hF4, Result.andThen]
            cases dF <;> rfl
          split at hv
          · rename_i hag
            cases hv
            refine ⟨.agg (cs.extract FF.offset (FF.offset + IF.size)), ?_, ?_⟩
            · simp only [Instr.field, Sem.run_bind, run_underlying h2, Result.andThen, hF1', asAgg, Sem.run_pure, part, hagg, hag, if_true, hs]
            · refine .agg (by simp; omega) ?_ ?_
              · intro j l u hj hu
                have hjs : j < IF.size := by
                  have := (List.getElem?_eq_some_iff.1 hj).1
                  simp at this; omega
                rw [List.getElem?_take_of_lt hjs, List.getElem?_drop] at hj
                rw [Array.getElem?_extract_of_lt (by omega)] at hu
                exact e2 _ _ _ hj ((Array.getElem?_eq_getElem (by omega)).trans hu)
              · intro u hu
                obtain ⟨j, hj, rfl⟩ := Array.getElem_of_mem hu
                rw [Array.getElem_extract]
                exact e3 _ (Array.getElem_mem _)
          · rename_i hag
            split at hv
            · rename_i l hl
              cases hv
              have hlt : FF.offset < cs.size := by have := (List.getElem?_eq_some_iff.1 hl).1; omega
              refine ⟨cs[FF.offset], ?_, .one (e3 _ (Array.getElem_mem _)) (e2 _ _ _ hl (Array.getElem?_eq_getElem hlt))⟩
              simp only [Instr.field, Sem.run_bind, run_underlying h2, Result.andThen, hF1', asAgg, Sem.run_pure, part, hagg, hag]
              simp [Array.getElem?_eq_getElem hlt]
            · cases hv
      · cases hv
    · cases hv
  · cases hv

theorem vlen_sound {t : TypeId} {i : TI} (ht : ti P t = some i) {v : V} {x : Value} {n : Nat} (hx : RepV w μ h v x) (hv : vlen h i.kd v = some n) (ty : TypeId) :
    (Builtin.len_ #[t] ty #[x]).run P w = .ok (.int .i64 n) w := by
  obtain ⟨I, d, h1, h2, h3, h4, h5, h6, h7, h8, h9, h10⟩ := ti_spec ht
  have sl : ∀ (A : Option Addr) (len cap : Nat), i.kd = .slice → (Builtin.len_ #[t] ty #[.slice A len cap]).run P w = .ok (.int .i64 len) w := by
    intro A len cap hk
    rw [h7] at hk
    obtain ⟨e, rfl⟩ := kd_slice hk
    exact run_len_slice w t ty A len cap (by simp [Program.elem, h2])
  unfold vlen at hv
  split at hv
  · split at hv
    · rename_i hk
      cases hv
      cases hx with | one _ hx => cases hx with | d hx => cases hx with
      | sl0 A cap => exact sl _ _ _ hk
      | sl => exact sl _ _ _ hk
    · cases hv
  · split at hv
    · rename_i hk
      cases hv
      cases hx with | one _ hx => cases hx with
      | nils => exact sl _ _ _ hk
    · cases hv
  · split at hv
    · rename_i fz sz ver' xs hid
      split at hv
      · rename_i hk
        obtain ⟨hk, rfl⟩ := hk
        cases hv
        cases hx with | one _ hx => cases hx with
        | own => exact sl _ _ _ hk
        | ownNil => exact sl _ _ _ hk
        | ownOld hid' hv => rw [hid] at hid'; cases hid'; omega
        | ownDead hid' => rw [hid] at hid'; cases hid'
      · cases hv
    · cases hv
  · split at hv
    · rename_i hk'
      cases hv
      cases hx with | one _ hx => cases hx with | d hx => cases hx with
      | str =>
      rw [h7] at hk'
      have := kd_str hk'; subst this
      simp [Builtin.len_, run_underlying h2, Result.andThen, goInt]
    · cases hv
  · cases hv

theorem vpick_sound {c x y : Operand} (s : SRep w μ h T a) {b v : V} (hb : opd T c = some b) (hv : vpick b (opd T x) (opd T y) = some v) :
    ∃ t, a.eval c = .bool t ∧ RepV w μ h v (if t then a.eval x else a.eval y) := by
  unfold vpick at hv
  split at hv
  · rename_i t p q hx hy
    cases hv
    have e1 := (opd_rep s hb).bool
    refine ⟨t, e1, ?_⟩
    cases t
    · exact opd_rep s hy
    · exact opd_rep s hx
  · exact ⟨true, (opd_rep s hb).bool, opd_rep s hv⟩
  · exact ⟨false, (opd_rep s hb).bool, opd_rep s hv⟩
  · cases hv

/-- **An operation that calls no function does what 'vop' says.** -/
theorem vop_sound {o : Oper} {v : V} {h' : AHeap} (H : HRep w μ h) (s : SRep w μ h T a) (hv : vop P T h o = some (v, h')) : Yields P w μ h (execOp a.eval o) v h' := by
  unfold vop at hv
  split at hv
  · rename_i x ho
    split at hv
    · rename_i u hx; cases hv; exact Yields.same H (opd_rep s hx) (by simp [execOp, ho])
    · cases hv
  · rename_i x ho
    split at hv
    · rename_i u hx; cases hv; exact Yields.same H (opd_rep s hx) (by simp [execOp, ho])
    · cases hv
  · rename_i c x y ho
    split at hv
    · rename_i b hb
      split at hv
      · rename_i u hu
        cases hv
        obtain ⟨t, e1, e2⟩ := vpick_sound s hb hu
        exact Yields.same H e2 (by simp [execOp, ho, e1, asBool])
      · cases hv
    · cases hv
  · rename_i e ho
    split at hv
    · rename_i i hi
      split at hv
      · rename_i z hz
        split at hv
        · rename_i ls hls
          cases hv
          obtain ⟨x, hx, hax⟩ := ti_zero (P := P) (w := w) hi hz
          have hne : ls ≠ [.any] := by
            intro e; subst e
            unfold absV at hax
            split at hax
            · rename_i cs
              cases hc : absLs cs.toList with
              | none => simp [hc] at hax
              | some l => 
                simp [hc] at hax; subst hax; cases hls
                cases hcs : cs.toList with
                | nil => rw [hcs] at hc; cases hc
                | cons y r =>
                  rw [hcs] at hc
                  unfold absLs at hc
                  split at hc
                  · rename_i l' ls' hl' hls'
                    cases hc
                    unfold absL at hl'
                    split at hl' <;> cases hl'
                  · cases hc
            · cases hc : absL x with
              | none => simp [hc] at hax
              | some l =>
                simp [hc] at hax; subst hax; cases hls
                unfold absL at hc
                split at hc <;> cases hc
          obtain ⟨μ', r1, r2, r3, r4⟩ := box_sound (P := P) H (absV_rep hax) hls hne e
          refine ⟨_, _, μ', _, ?_, .inl rfl, r2, .one rfl r3, r4⟩
          simp [execOp, ho, Instr.alloc, hx, r1, Result.andThen]
        · cases hv
      · cases hv
    · cases hv
  · rename_i e x ho
    split at hv
    · rename_i u hx
      split at hv
      · rename_i hk
        split at hv
        · rename_i ls hls
          cases hv
          obtain ⟨e1, e2, e3⟩ := (opd_rep s hx).cells' hls hk
          refine ⟨_, _, _, _, ?_, .inl rfl, H.push (o := .box ls) (T := e) ⟨e1.symm, e2, e3⟩, .one rfl (.ptr (cells := ls) (by simp) (Nat.zero_le _) (Pl.put_same _ _ _)), Good.push _ _ _ _ _⟩
          simp [execOp, ho, Instr.box, newVar, newRow, Result.andThen]
        · cases hv
      · cases hv
    · cases hv
  · rename_i t ps ho
    split at hv
    · rename_i i vs hi hvs
      split at hv
      · rename_i u hu
        cases hv
        obtain ⟨e1, e2⟩ := opdPairs_rep s hvs
        obtain ⟨x, hx, hr⟩ := vbuild_sound (P := P) (w := w) (μ := μ) (h := h) hi (xs := ps.toList.map fun q => (q.1, a.eval q.2)) (by simpa using e1) (fun j p x hj hx => by
          rw [List.getElem?_map] at hx
          cases hq : ps.toList[j]? with
          | none => simp [hq] at hx
          | some q =>
            simp [hq] at hx
            subst hx
            exact e2 j p.1 p.2 q hj hq) hu
        refine Yields.same H hr ?_
        have : (ps.map fun q => (q.1, a.eval q.2)) = (ps.toList.map fun q => (q.1, a.eval q.2)).toArray := by rw [← Array.toList_map]
        simp [execOp, ho, this, hx, Result.andThen]
      · cases hv
    · cases hv
  · rename_i t x ho
    split at hv
    · rename_i i l hi hx
      split at hv
      · rename_i u hu
        cases hv
        obtain ⟨y, hy, hr⟩ := vload_sound H hi (opd_rep s hx).l hu
        exact Yields.same H hr (by simp [execOp, ho, hy, Result.andThen])
      · cases hv
    · cases hv
  · rename_i t p x ho
    split at hv
    · rename_i i l u hi hp hx
      split at hv
      · rename_i hk
        split at hv
        · rename_i h2 hs
          cases hv
          obtain ⟨w', r1, r2, r3⟩ := vstore_sound hi H hk (opd_rep s hp).l (opd_rep s hx) hs
          exact ⟨_, w', μ, undef, by simp [execOp, ho, r1, Result.andThen], .inr ⟨rfl, rfl⟩, r2, .top, r3⟩
        · cases hv
      · cases hv
    · cases hv
  · rename_i x ho
    split at hv
    · rename_i l hx
      split at hv
      · rename_i hn
        cases hv
        have hr := opd_rep s hx
        refine Yields.same H hr ?_
        rcases visNil_rep hn hr.l with ⟨e, _⟩ | ⟨_, ⟨ad, e⟩ | ⟨f, cs, e⟩⟩
        · cases e
        · simp [execOp, ho, e]
        · simp [execOp, ho, e]
      · cases hv
    · cases hv
  · rename_i op t x y ty ho
    split at hv
    · rename_i i u v' hi hx hy
      split at hv
      · rename_i d hd
        cases hv
        obtain ⟨z, hz, hr⟩ := vbin_sound hi (opd_rep s hx) (opd_rep s hy) hd x y
        refine Yields.same H hr ?_
        simp only [execOp, ho, Sem.run_bind, Sem.run_pure] at hz ⊢
        rw [hz]
        rfl
      · cases hv
    · cases hv
  · rename_i op t x ho
    split at hv
    · rename_i b hop hx
      cases hv
      exact Yields.same H (.one rfl (.d (.bool _))) (by simp [execOp, ho, (opd_rep s hx).bool, Op.unary])
    · rename_i k n hop hx
      cases hv
      exact Yields.same H (.one rfl (.d (.int _ _))) (by simp [execOp, ho, (opd_rep s hx).int, Op.unary, Op.intArith])
    · cases hv
  · rename_i src dst x ho
    split at hv
    · rename_i i j k n hi hj hx
      split at hv
      · rename_i k' hk
        cases hv
        obtain ⟨I, d, h1, h2, _⟩ := ti_spec hi
        obtain ⟨J, d', h1', h2', _, _, _, _, h7', _⟩ := ti_spec hj
        rw [h7'] at hk
        have := kd_int hk; subst this
        exact Yields.same H (.one rfl (.d (.int _ _))) (by simp [execOp, ho, (opd_rep s hx).int, convert, run_underlying h2, run_underlying h2', Conv.intToInt, Result.andThen])
      · cases hv
    · rename_i i j b hi hj hx
      split at hv
      · rename_i hk
        cases hv
        obtain ⟨I, d, h1, h2, _⟩ := ti_spec hi
        obtain ⟨J, d', h1', h2', _, _, _, _, h7', _⟩ := ti_spec hj
        rw [h7'] at hk
        have := kd_str hk; subst this
        exact Yields.same H (.one rfl (.d (.str _))) (by cases d <;> simp [execOp, ho, (opd_rep s hx).str, convert, run_underlying h2, run_underlying h2', Result.andThen])
      · cases hv
    · cases hv
  · rename_i f first caps ho
    split at hv
    · rename_i hf
      split at hv
      · rename_i vs hvs
        split at hv
        · rename_i ls hls
          cases hv
          obtain ⟨e1, e2⟩ := opds_rep s hvs
          have := vcaps_get hls; subst this
          have hf' : first = #[] := Array.eq_empty_of_size_eq_zero hf
          refine Yields.same H (x := .func (.func f) #[] (caps.map a.eval)) (.one rfl (.fn (by simpa using e1) ?_)) (by simp [execOp, ho, Instr.makeFunc, hf'])
          intro j l u hj hu
          rw [Array.getElem?_map] at hu
          cases hq : caps[j]? with
          | none => simp [hq] at hu
          | some q =>
            simp [hq] at hu
            subst hu
            exact (e2 j (.one l) q (by simp [hj]) (by simpa using hq)).l
        · cases hv
      · cases hv
    · cases hv
  · rename_i t x lo hi ho
    split at hv
    · rename_i i u l k hi' hx hlo hhi
      split at hv
      · rename_i r hr
        cases hv
        obtain ⟨y, hy, hrep⟩ := vslice_sound (P := P) hi' s (opd_rep s hx) hlo hhi hr
        exact Yields.same H hrep (by simp [execOp, ho, hy, Result.andThen])
      · cases hv
    · cases hv
  · rename_i t x f ho
    split at hv
    · rename_i i l hi hx
      split at hv
      · rename_i F hk hF
        split at hv
        · cases hv
        · rename_i h0
          split at hv
          · rename_i q hq
            cases hv
            obtain ⟨y, hy, hr, h1⟩ := vfieldAddr_sound (P := P) hi hk hF h0 (opd_rep s hx).l hq
            exact Yields.same H (.one h1 hr) (by simp [execOp, ho, hy, Result.andThen])
          · cases hv
      · cases hv
    · cases hv
  · rename_i t x f ho
    split at hv
    · rename_i i u hi hx
      split at hv
      · rename_i q hq
        cases hv
        obtain ⟨y, hy, hr⟩ := vfield_sound (P := P) hi (opd_rep s hx) hq
        exact Yields.same H hr (by simp [execOp, ho, hy, Result.andThen])
      · cases hv
    · cases hv
  · rename_i t x ix ho
    split at hv
    · rename_i i l k n hi hx hn
      split at hv
      · rename_i e he
        split at hv
        · rename_i q hq
          cases hv
          obtain ⟨y, hy, hr, h1⟩ := vindexAddr_sound (P := P) (k := k) hi he (opd_rep s hx).l hq
          exact Yields.same H (.one h1 hr) (by simp [execOp, ho, hy, (opd_rep s hn).int, Result.andThen])
        · cases hv
      · cases hv
    · cases hv
  · rename_i t x ix ho
    split at hv
    · rename_i i str k n hi hx hn
      split at hv
      · rename_i hk
        split at hv
        · rename_i h0
          split at hv
          · rename_i b hb
            cases hv
            obtain ⟨I, d, h1, h2, _, _, _, _, h7, _⟩ := ti_spec hi
            rw [h7] at hk
            have := kd_str hk; subst this
            refine Yields.same H (x := .int .u8 b.toNat) (.one rfl (.d (.int _ _))) ?_
            simp [execOp, ho, (opd_rep s hx).str, (opd_rep s hn).int, Instr.index, asIntOf, run_underlying h2, Result.andThen, h0, hb]
          · cases hv
        · cases hv
      · cases hv
    · cases hv
  · rename_i x k ho
    split at hv
    · rename_i vs hx
      split at hv
      · rename_i u hu
        cases hv
        have hr := opd_rep s hx
        generalize hxx : a.eval x = xx at hr
        cases hr with
        | @tup _ cs e1 e2 =>
          have hlt : k < cs.size := by have := (List.getElem?_eq_some_iff.1 hu).1; omega
          exact Yields.same H (e2 _ _ _ hu (Array.getElem?_eq_getElem hlt)) (by simp [execOp, ho, hxx, Instr.extract, Array.getElem?_eq_getElem hlt])
      · cases hv
    · cases hv
  · rename_i args argTypes ho
    split at hv
    · rename_i x t hargs hts
      split at hv
      · rename_i i u hi hx
        split at hv
        · rename_i n hn
          cases hv
          have e1 : args = #[x] := by apply Array.toList_inj.1; simpa using hargs
          have e2 : argTypes = #[t] := by apply Array.toList_inj.1; simpa using hts
          subst e1; subst e2
          refine Yields.same H (x := .int .i64 n) (.one rfl (.d (.int _ _))) ?_
          simp [execOp, ho, resolve, invoke, builtin, vlen_sound hi (opd_rep s hx) hn, Result.andThen]
        · cases hv
      · cases hv
    · cases hv
  · rename_i args argTypes ho
    split at hv
    · rename_i x y hargs
      split at hv
      · rename_i k p k' q hx hy
        cases hv
        have e1 : args = #[x, y] := by apply Array.toList_inj.1; simpa using hargs
        subst e1
        refine Yields.same H (x := .int k (if q > p then q else p)) (.one rfl (.d (.int _ _))) ?_
        simp [execOp, ho, resolve, invoke, builtin, (opd_rep s hx).int, (opd_rep s hy).int, Builtin.max_, Builtin.max2]
      · cases hv
    · cases hv
  · rename_i args argTypes ho
    split at hv
    · rename_i x y hargs
      split at hv
      · rename_i k p k' q hx hy
        cases hv
        have e1 : args = #[x, y] := by apply Array.toList_inj.1; simpa using hargs
        subst e1
        refine Yields.same H (x := .int k (if q < p then q else p)) (.one rfl (.d (.int _ _))) ?_
        simp [execOp, ho, resolve, invoke, builtin, (opd_rep s hx).int, (opd_rep s hy).int, Builtin.min_, Builtin.min2]
      · cases hv
    · cases hv
  · cases hv

end Go.Vt
