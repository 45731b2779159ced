/- Own framework, part 12: slices that are written out or made are sound. -/
import Derived.Test.YtladjgdhpfcmjaaGreatDoorVtMem2
namespace Go.Vt
variable {P : Program} {w : World} {μ : Pl} {h : AHeap} {T : Sl} {a : Act}

theorem fzVs_sound : ∀ (vs : List (Nat × V)) {h : AHeap}, HRep w μ h → HRep w μ (fzVs h vs) ∧ Good w μ h w μ (fzVs h vs)
  | [], _, H => ⟨H, Good.refl _ _ _⟩
  | (k, v) :: r, h, H => by
    unfold fzVs
    split
    · rename_i ls hls
      obtain ⟨H1, g1⟩ := fzLs_sound ls H
      obtain ⟨H2, g2⟩ := fzVs_sound r H1
      exact ⟨H2, g1.trans g2⟩
    · exact fzVs_sound r H

theorem fzOne_length (h : AHeap) (id : Nat) : (fzOne h id).length = h.length := by unfold fzOne; split <;> simp
theorem fzLs_length : ∀ (ls : List L) (h : AHeap), (fzLs h ls).length = h.length
  | [], _ => rfl
  | l :: r, h => by
    simp only [fzLs, fzLs_length r]
    unfold fzL; split
    · exact fzOne_length _ _
    · rfl
theorem fzVs_length : ∀ (vs : List (Nat × V)) (h : AHeap), (fzVs h vs).length = h.length
  | [], _ => rfl
  | (k, v) :: r, h => by
    unfold fzVs
    split
    · rw [fzVs_length r, fzLs_length]
    · exact fzVs_length r h

theorem fillRows (size : Nat) : ∀ (xs : List (Nat × Value)) (n : Nat) (cs : Array Value), (∀ (m : Nat) (p : Nat × Value), xs[m]? = some p → p.1 = n + m ∧ p.2.cells.size = size) → (n + xs.length) * size ≤ cs.size →
    ∃ cs', Instr.fill (fun i => some (i * size, size)) cs xs = some cs' ∧ cs'.size = cs.size ∧ (∀ k, k < n * size → cs'[k]? = cs[k]?) ∧
      ∀ (m : Nat) (p : Nat × Value), xs[m]? = some p → ∀ j, j < size → cs'[(n + m) * size + j]? = p.2.cells[j]?
  | [], n, cs, _, _ => ⟨cs, rfl, rfl, fun _ _ => rfl, fun m p hm => by simp at hm⟩
  | (k, x) :: r, n, cs, hx, hl => by
    obtain ⟨e1, e2⟩ := hx 0 _ rfl
    simp only [Nat.add_zero] at e1
    subst e1
    simp only [List.length_cons] at hl
    have hk : k * size + size ≤ cs.size := by
      have : (k + 1) * size ≤ (k + (r.length + 1)) * size := Nat.mul_le_mul_right _ (by omega)
      rw [Nat.succ_mul] at this; omega
    obtain ⟨f1, f2⟩ := setFold (k * size) x.cells.toList 0 cs (by simp only [Array.length_toList]; simp only at e2; omega)
    simp only [Array.length_toList, Nat.add_zero] at f1 f2
    simp only at e2
    obtain ⟨cs', g1, g2, g3, g4⟩ := fillRows size r (k + 1) ((x.cells.toList.zipIdx 0).foldl (fun (cs : Array Value) (x : Value × Nat) => cs.setIfInBounds (k * size + x.2) x.1) cs)
      (fun m p hm => by obtain ⟨a, b⟩ := hx (m + 1) p (by simpa using hm); exact ⟨by omega, b⟩) (by rw [f1, show k + 1 + r.length = k + (r.length + 1) by omega]; exact hl)
    refine ⟨cs', ?_, g2.trans f1, ?_, ?_⟩
    · unfold Instr.fill
      simp only
      rw [if_neg (by simp; omega)]
      have : Array.foldl (fun (cs : Array Value) (x : Value × Nat) => cs.setIfInBounds (k * size + x.2) x.1) cs x.cells.zipIdx = (x.cells.toList.zipIdx 0).foldl (fun (cs : Array Value) (x : Value × Nat) => cs.setIfInBounds (k * size + x.2) x.1) cs := by
        rw [← Array.foldl_toList]; congr 1; simp
      rw [← g1, ← this]
    · intro q hq
      rw [g3 q (by rw [Nat.succ_mul]; omega), f2 q, if_neg (by omega)]
    · intro m p hm j hj
      cases m with
      | zero =>
        simp at hm; subst hm
        simp only [Nat.add_zero]
        rw [g3 _ (by rw [Nat.succ_mul]; omega), f2, if_pos (by omega)]
        simp
      | succ m =>
        have := g4 m p (by simpa using hm) j hj
        rw [show k + (m + 1) = k + 1 + m by omega]; exact this

theorem vrows_get {size : Nat} : ∀ {vs : List (Nat × V)} {n : Nat} {rows : List (List D)}, vrows h size n vs = some rows → rows.length = vs.length ∧
    ∀ (m : Nat) (ds : List D), rows[m]? = some ds → ∃ v ls, vs[m]? = some (n + m, v) ∧ vcells v = some ls ∧ toDs h ls = some ds ∧ ds.length = size
  | [], n, rows, hr => by cases hr; exact ⟨rfl, by simp⟩
  | (k, v) :: r, n, rows, hr => by
    unfold vrows at hr
    split at hr
    · rename_i e; subst e
      split at hr
      · rename_i ls hls
        split at hr
        · rename_i ds rr hds hrr
          split at hr
          · rename_i hsz
            cases hr
            obtain ⟨h1, h2⟩ := vrows_get hrr
            refine ⟨by simp [h1], ?_⟩
            intro m d hm
            cases m with
            | zero => simp at hm; subst hm; exact ⟨v, ls, rfl, hls, hds, hsz⟩
            | succ m =>
              obtain ⟨v', ls', a, b, c, e⟩ := h2 m d (by simpa using hm)
              exact ⟨v', ls', by simp [a]; omega, b, c, e⟩
          · cases hr
        · cases hr
      · cases hr
    · cases hr

theorem vbuildSlice_sound {t : TypeId} {i : TI} {e : EI} (ht : ti P t = some i) (he : i.el = some e) (H : HRep w μ h) {n : Nat} {vs : List (Nat × V)} {xs : List (Nat × Value)} {rows : List (List D)} (hl : vs.length = xs.length) (hn : vs.length = n)
    (hp : ∀ (j : Nat) (p : Nat × V) (x : Nat × Value), vs[j]? = some p → xs[j]? = some x → x.1 = p.1 ∧ RepV w μ h p.2 x.2) (hsz : n * e.size ≤ 16777216) (hz : e.zero.isSome = true) (hk : ∀ (j : Nat) (p : Nat × V), vs[j]? = some p → known p.2 = true)
    (hr : vrows (fzVs h vs) e.size 0 vs = some rows) :
    ∃ v' w' μ', (Instr.buildSlice t n xs.toArray).run P w = .ok v' w' ∧ HRep w' μ' (fzVs h vs ++ [.arr false e.size 0 rows]) ∧ RepL w' μ' (fzVs h vs ++ [.arr false e.size 0 rows]) (.own h.length 0 n) v' ∧ v'.oneCell' = true ∧
      Good w μ h w' μ' (fzVs h vs ++ [.arr false e.size 0 rows]) := by
  obtain ⟨I, d, h1, h2, h3, h4, h5, h6, h7, h8, h9, h10, _⟩ := ti_spec ht
  obtain ⟨et, rfl⟩ := h10 (by rw [he]; rfl)
  have hE : eiOf P et = some e := by rw [← h9 et rfl]; exact he
  obtain ⟨E, dE, g1, g2, g3, g4, g5, g6⟩ := ei_spec hE
  obtain ⟨H1, k1⟩ := fzVs_sound vs H
  obtain ⟨r1, r2⟩ := vrows_get hr
  -- the parts
  have part : ∀ (m : Nat) (ds : List D), rows[m]? = some ds → ∃ x, xs[m]? = some (m, x) ∧ x.cells.size = e.size ∧ (∀ c ∈ x.cells, c.oneCell' = true) ∧ ds.length = e.size ∧ ∀ (j : Nat) (y : D), ds[j]? = some y → ∃ c, x.cells[j]? = some c ∧ RepD w (Mut μ (fzVs h vs)) y c := by
    intro m ds hm
    obtain ⟨v, ls, a1, a2, a3, a4⟩ := r2 m ds hm
    have hlt : m < xs.length := by have := (List.getElem?_eq_some_iff.1 a1).1; omega
    have hx := List.getElem?_eq_getElem hlt
    obtain ⟨b1, b2⟩ := hp m _ _ a1 hx
    obtain ⟨c1, c2, c3⟩ := b2.cells' a2 (hk m _ a1)
    obtain ⟨d1, d2⟩ := toDs_rep H1 a3
    refine ⟨xs[m].2, ?_, by omega, c2, a4, fun j y hj => ?_⟩
    · rw [hx]; simp at b1; congr 1; exact Prod.ext (by simp [b1]) rfl
    · have hjl := (List.getElem?_eq_some_iff.1 hj).1
      have hjc : j < xs[m].2.cells.size := by omega
      have hjs : ls[j]? = some ls[j] := List.getElem?_eq_getElem (by omega)
      exact ⟨_, Array.getElem?_eq_getElem hjc, d2 j y _ _ hj hjs ((c3 j _ _ hjs (Array.getElem?_eq_getElem hjc)).good k1)⟩
  have hxs : ∀ (m : Nat) (p : Nat × Value), xs[m]? = some p → p.1 = 0 + m ∧ p.2.cells.size = e.size := by
    intro m p hm
    have hlt : m < rows.length := by have := (List.getElem?_eq_some_iff.1 hm).1; omega
    obtain ⟨x, a, b, _⟩ := part m _ (List.getElem?_eq_getElem hlt)
    rw [hm] at a; cases a; exact ⟨by simp, b⟩
  -- the cells at the start
  have hzero : ∃ cs0 : Array Value, (n * e.size = 0 ∧ cs0 = #[]) ∨ (n * e.size ≠ 0 ∧ ∃ z : Value, (zeroValue et).run P w = .ok z w ∧ cs0 = z.cells) := by
    by_cases c : n * e.size = 0
    · exact ⟨#[], .inl ⟨c, rfl⟩⟩
    · obtain ⟨z, hz'⟩ : ∃ z, E.zero = some z := by
        rw [g5] at hz
        cases hh : E.zero with
        | none => simp [hh] at hz
        | some z => exact ⟨z, rfl⟩
      exact ⟨z.cells, .inr ⟨c, z, by simp [zeroValue, typeInfo, g1, hz', Result.andThen], rfl⟩⟩
  obtain ⟨cs0, hcs0⟩ := hzero
  have hxn : xs.length = n := by omega
  obtain ⟨cs', f1, f2, f3, f4⟩ := fillRows e.size xs 0 ((Array.range (n * e.size)).map (cs0[· % cs0.size]!)) hxs (by simp [hxn])
  simp only [Array.size_map, Array.size_range] at f2
  have hrun : (Instr.buildSlice t n xs.toArray).run P w = .ok (.slice (some ⟨w.heap.size, 0, none⟩) n n) (w.alloc (.cells cs' et)) := by
    have hs : (sizeOf et).run P w = .ok e.size w := ei_sizeOf hE
    have hle : ¬ (n * e.size > 2 ^ 24) := by omega
    rcases hcs0 with ⟨c, rfl⟩ | ⟨c, z, hzr, rfl⟩
    · simp only [Instr.buildSlice, Sem.run_bind, run_underlying h2, Result.andThen, hs, if_neg hle, Sem.run_pure, if_pos c]
      rw [f1]; rfl
    · simp only [Instr.buildSlice, Sem.run_bind, run_underlying h2, Result.andThen, hs, if_neg hle, Sem.run_pure, if_neg c, hzr]
      rw [f1]; rfl
  have hrn : rows.length = n := by omega
  have hcell : ∀ (m j : Nat), m < n → j < e.size → ∃ ds x c, rows[m]? = some ds ∧ xs[m]? = some (m, x) ∧ cs'[m * e.size + j]? = some c ∧ x.cells[j]? = some c ∧ c.oneCell' = true := by
    intro m j hm hj
    have hr := List.getElem?_eq_getElem (l := rows) (i := m) (by omega)
    obtain ⟨x, a, b, c, d, e'⟩ := part m _ hr
    have := f4 m _ a j hj
    simp only [Nat.zero_add] at this
    have hjc : j < x.cells.size := by omega
    exact ⟨_, x, x.cells[j], hr, a, by rw [this]; exact Array.getElem?_eq_getElem hjc, Array.getElem?_eq_getElem hjc, c _ (Array.getElem_mem _)⟩
  have hnew : NewOk w μ (fzVs h vs) cs' (.arr false e.size 0 rows) := by
    refine ⟨by rw [hrn, f2]; exact Nat.le_refl _, ?_, ?_, ?_⟩
    · intro v hv
      obtain ⟨q, hq, rfl⟩ := Array.getElem_of_mem hv
      rw [f2] at hq
      have hs0 : 0 < e.size := by rcases Nat.eq_zero_or_pos e.size with c | c; rw [c] at hq; simp at hq; exact c
      obtain ⟨ds, x, c, _, _, c1, _, c2⟩ := hcell (q / e.size) (q % e.size) (Nat.div_lt_of_lt_mul (by rw [Nat.mul_comm]; exact hq)) (Nat.mod_lt _ hs0)
      have hdm : q / e.size * e.size + q % e.size = q := by rw [Nat.mul_comm]; exact Nat.div_add_mod q e.size
      rw [hdm, Array.getElem?_eq_getElem (by rw [f2]; exact hq)] at c1
      cases c1; exact c2
    · intro m ds hm
      obtain ⟨x, _, _, _, d, _⟩ := part m ds hm
      exact d
    · intro m j ds y hm hj
      obtain ⟨x, a, b, c, d, e'⟩ := part m ds hm
      obtain ⟨u, hu, hd⟩ := e' j y hj
      refine ⟨u, ?_, hd⟩
      have hjl : j < e.size := by rw [← d]; exact (List.getElem?_eq_some_iff.1 hj).1
      have := f4 m _ a j hjl
      simp only [Nat.zero_add] at this
      rw [this]; exact hu
  have hlen := fzVs_length vs h
  refine ⟨_, _, _, hrun, H1.push hnew, ?_, rfl, k1.trans (Good.push _ _ _ _ _)⟩
  rw [← hlen]
  exact .own (ty := none) (fz := false) (sz := e.size) (xs := rows) (by simp) (by omega) (Pl.put_same _ _ _) (Nat.le_refl _) (heap_alloc_new w (.cells cs' et)) (by rw [f2]; exact Nat.le_refl _)

theorem vones_get : ∀ {vs : List (Nat × V)} {n : Nat} {ls : List L}, vones n vs = some ls → ls.length = vs.length ∧ ∀ (m : Nat) (l : L), ls[m]? = some l → vs[m]? = some (n + m, .one l)
  | [], n, ls, hr => by cases hr; exact ⟨rfl, by simp⟩
  | (k, v) :: r, n, ls, hr => by
    unfold vones at hr
    split at hr
    · rename_i e; subst e
      split at hr
      · rename_i l rr hrr
        cases hr
        obtain ⟨h1, h2⟩ := vones_get hrr
        refine ⟨by simp [h1], fun m l' hm => ?_⟩
        cases m with
        | zero => simp at hm; subst hm; rfl
        | succ m =>
          have := h2 m l' (by simpa using hm)
          simp [this]; omega
      · cases hr
    · cases hr

theorem vbuildP_sound {t : TypeId} {i : TI} {e : EI} (ht : ti P t = some i) (he : i.el = some e) (H : HRep w μ h) {n : Nat} {vs : List (Nat × V)} {xs : List (Nat × Value)} {ls : List L} (hl : vs.length = xs.length) (hn : vs.length = n)
    (hp : ∀ (j : Nat) (p : Nat × V) (x : Nat × Value), vs[j]? = some p → xs[j]? = some x → x.1 = p.1 ∧ RepV w μ h p.2 x.2) (hsz : n * e.size ≤ 16777216) (hz : e.zero.isSome = true) (hk : ∀ (j : Nat) (p : Nat × V), vs[j]? = some p → known p.2 = true)
    (he1 : e.size = 1) (hr : vones 0 vs = some ls) :
    ∃ v' w' μ', (Instr.buildSlice t n xs.toArray).run P w = .ok v' w' ∧ HRep w' μ' (h ++ [.box ls]) ∧ RepL w' μ' (h ++ [.box ls]) (.bsl h.length 0 n) v' ∧ v'.oneCell' = true ∧ Good w μ h w' μ' (h ++ [.box ls]) := by
  obtain ⟨I, d, h1, h2, h3, h4, h5, h6, h7, h8, h9, h10, _⟩ := ti_spec ht
  obtain ⟨et, rfl⟩ := h10 (by rw [he]; rfl)
  have hE : eiOf P et = some e := by rw [← h9 et rfl]; exact he
  obtain ⟨E, dE, g1, g2, g3, g4, g5, g6⟩ := ei_spec hE
  obtain ⟨r1, r2⟩ := vones_get hr
  have part : ∀ (m : Nat) (l : L), ls[m]? = some l → ∃ x, xs[m]? = some (m, x) ∧ x.cells.size = 1 ∧ (∀ c ∈ x.cells, c.oneCell' = true) ∧ ∃ c, x.cells[0]? = some c ∧ RepL w μ h l c := by
    intro m l hm
    have a1 := r2 m l hm
    have hlt : m < xs.length := by have := (List.getElem?_eq_some_iff.1 a1).1; omega
    have hx := List.getElem?_eq_getElem hlt
    obtain ⟨b1, b2⟩ := hp m _ _ a1 hx
    obtain ⟨c1, c2, c3⟩ := b2.cells' rfl (hk m _ a1)
    simp only [List.length_cons, List.length_nil] at c1
    refine ⟨xs[m].2, ?_, by omega, c2, _, Array.getElem?_eq_getElem (by omega), c3 0 l _ rfl (Array.getElem?_eq_getElem (by omega))⟩
    rw [hx]; simp at b1; congr 1; exact Prod.ext (by simp [b1]) rfl
  have hxs : ∀ (m : Nat) (p : Nat × Value), xs[m]? = some p → p.1 = 0 + m ∧ p.2.cells.size = e.size := by
    intro m p hm
    have hlt : m < ls.length := by have := (List.getElem?_eq_some_iff.1 hm).1; omega
    obtain ⟨x, a, b, _⟩ := part m _ (List.getElem?_eq_getElem hlt)
    rw [hm] at a; cases a; exact ⟨by simp, by rw [he1]; exact b⟩
  have hzero : ∃ cs0 : Array Value, (n * e.size = 0 ∧ cs0 = #[]) ∨ (n * e.size ≠ 0 ∧ ∃ z : Value, (zeroValue et).run P w = .ok z w ∧ cs0 = z.cells) := by
    by_cases c : n * e.size = 0
    · exact ⟨#[], .inl ⟨c, rfl⟩⟩
    · obtain ⟨z, hz'⟩ : ∃ z, E.zero = some z := by
        rw [g5] at hz
        cases hh : E.zero with
        | none => simp [hh] at hz
        | some z => exact ⟨z, rfl⟩
      exact ⟨z.cells, .inr ⟨c, z, by simp [zeroValue, typeInfo, g1, hz', Result.andThen], rfl⟩⟩
  obtain ⟨cs0, hcs0⟩ := hzero
  have hxn : xs.length = n := by omega
  obtain ⟨cs', f1, f2, f3, f4⟩ := fillRows e.size xs 0 ((Array.range (n * e.size)).map (cs0[· % cs0.size]!)) hxs (by simp [hxn])
  simp only [Array.size_map, Array.size_range] at f2
  have hrun : (Instr.buildSlice t n xs.toArray).run P w = .ok (.slice (some ⟨w.heap.size, 0, none⟩) n n) (w.alloc (.cells cs' et)) := by
    have hs : (sizeOf et).run P w = .ok e.size w := ei_sizeOf hE
    have hle : ¬ (n * e.size > 2 ^ 24) := by omega
    rcases hcs0 with ⟨c, rfl⟩ | ⟨c, z, hzr, rfl⟩
    · simp only [Instr.buildSlice, Sem.run_bind, run_underlying h2, Result.andThen, hs, if_neg hle, Sem.run_pure, if_pos c]
      rw [f1]; rfl
    · simp only [Instr.buildSlice, Sem.run_bind, run_underlying h2, Result.andThen, hs, if_neg hle, Sem.run_pure, if_neg c, hzr]
      rw [f1]; rfl
  have hrn : ls.length = n := by omega
  rw [he1, Nat.mul_one] at f2
  have hcell : ∀ (m : Nat) (l : L), ls[m]? = some l → ∃ c, cs'[m]? = some c ∧ c.oneCell' = true ∧ RepL w μ h l c := by
    intro m l hm
    obtain ⟨x, a, b, c, d, e1, e2⟩ := part m l hm
    have := f4 m _ a 0 (by omega)
    simp only [Nat.zero_add, he1, Nat.mul_one, Nat.add_zero] at this
    exact ⟨d, by rw [this]; exact e1, c d (Array.mem_of_getElem? e1), e2⟩
  have hnew : NewOk w μ h cs' (.box ls) := by
    refine ⟨by omega, fun v hv => ?_, fun j l v hj hv => ?_⟩
    · obtain ⟨q, hq, rfl⟩ := Array.getElem_of_mem hv
      obtain ⟨c, c1, c2, _⟩ := hcell q _ (List.getElem?_eq_getElem (by omega))
      rw [Array.getElem?_eq_getElem hq] at c1
      cases c1; exact c2
    · obtain ⟨c, c1, _, c3⟩ := hcell j l hj
      rw [hv] at c1; cases c1; exact c3
  refine ⟨_, _, _, hrun, H.push hnew, ?_, rfl, Good.push _ _ _ _ _⟩
  exact .bsl (ty := none) (cells := ls) (by simp) (by omega) (Pl.put_same _ _ _) (Nat.le_refl _) (heap_alloc_new w (.cells cs' et)) (by omega)

theorem zrows_spec {et : TypeId} {e : EI} {E : TypeInfo} (hE : eiOf P et = some e) (g1 : P.info? et = some E) {n : Nat} {rows : List (List D)} (hz : zrows e n = some rows) :
    ∃ z ds, E.zero = some z ∧ rows = List.replicate n ds ∧ ds.length = e.size ∧ z.cells.size = e.size ∧ (∀ v ∈ z.cells, v.oneCell' = true) ∧ ∀ (w : World) (M : Nat → Prop) (j : Nat) (y : D), ds[j]? = some y → ∃ c, z.cells[j]? = some c ∧ RepD w M y c := by
  obtain ⟨E', dE, g1', g2, g3, g4, g5, g6⟩ := ei_spec hE
  rw [g1] at g1'; cases g1'
  unfold zrows at hz
  split at hz
  · rename_i zv hzv
    split at hz
    · rename_i ls hls
      split at hz
      · rename_i ds hds
        split at hz
        · rename_i hlen
          cases hz
          rw [g5] at hzv
          cases hzz : E.zero with
          | none => simp [hzz] at hzv
          | some z =>
            have ha : absV z = some zv := by simpa [hzz] using hzv
            have hc := absV_cells ha hls
            have hd0 : ds.length = ls.length := by
              have : ∀ (ls : List L) (ds : List D), toDs [] ls = some ds → ds.length = ls.length := by
                intro ls
                induction ls with
                | nil => intro ds h; cases h; rfl
                | cons l r ih =>
                  intro ds h
                  unfold toDs at h
                  split at h
                  · rename_i x xs hx hxs; cases h; simp [ih xs hxs]
                  · cases h
              exact this ls ds hds
            refine ⟨z, ds, rfl, rfl, hlen, by omega, zero_one ha, fun w M j y hj => ?_⟩
            have Hn : HRep w ⟨fun _ => none, M⟩ [] ∨ True := .inr trivial
            have hrep : RepV w ⟨fun _ => none, M⟩ [] zv z := absV_rep ha
            have hjl := (List.getElem?_eq_some_iff.1 hj).1
            have hjc : j < z.cells.size := by omega
            refine ⟨_, Array.getElem?_eq_getElem hjc, ?_⟩
            -- each cell is a constant's
            have hl : RepL w ⟨fun _ => none, M⟩ [] ls[j] z.cells[j] := by
              cases hrep with
              | one ho hl =>
                cases hls
                have hz1 : z.cells = #[z] := by cases z <;> first | rfl | cases ho
                have hj0 : j = 0 := by rw [hz1] at hjc; simpa using hjc
                subst hj0
                simp only [hz1]
                exact hl
              | top => cases hls; have hj0 : j = 0 := by simp at hd0; omega
                       subst hj0; exact .any
              | agg e1 e2 e3 => cases hls; exact e2 j _ _ (List.getElem?_eq_getElem _) (Array.getElem?_eq_getElem hjc)
              | tup => cases hls
            have hone : ∀ (ls : List L) (ds : List D) (j : Nat) (l : L) (y : D) (c : Value), toDs [] ls = some ds → ls[j]? = some l → ds[j]? = some y → RepL w ⟨fun _ => none, M⟩ [] l c → RepD w M y c := by
              intro ls
              induction ls with
              | nil => intro ds j l y c h1 h2; simp at h2
              | cons l0 r ih =>
                intro ds j l y c h1 h2 h3 h4
                unfold toDs at h1
                split at h1
                · rename_i x xs hx hxs
                  cases h1
                  cases j with
                  | zero =>
                    simp at h2 h3; subst h2; subst h3
                    unfold toD at hx
                    split at hx
                    · cases hx
                      cases h4 with | d hd =>
                      exact hd.step (fun _ _ _ => rfl) (fun b hb => .inl (.inr hb))
                    · cases hx; cases h4; exact .sl0 _ _
                    · simp at hx
                    · cases hx
                  | succ j => exact ih xs j l y c hxs (by simpa using h2) (by simpa using h3) h4
                · cases h1
            exact hone ls ds j _ y _ hds (List.getElem?_eq_getElem (by omega)) hj hl
        · cases hz
      · cases hz
    · cases hz
  · cases hz

end Go.Vt
