/- Own framework, part 4: stores, structs, slices written out, operators. -/
import Derived.Test.YthbfemghbckipaaGreatVtSound
namespace Go.Vt
variable {P : Program} {w : World} {μ : Pl} {h : AHeap} {T : Sl} {a : Act}

theorem storeVar_run {t : TypeId} {i : TI} (ht : ti P t = some i) {x : Value} (hs : x.cells.size = i.size) (g o : Nat) (cur : Array Value) (tt : TypeId) (hg : w.heap[g]? = some (.cells cur tt (0, 0))) (hle : o + x.cells.size ≤ cur.size) (h1 : ∀ v ∈ x.cells, v.oneCell' = true) :
    ∃ w' cs', (storeVar t ⟨g, o, none⟩ x).run P w = .ok () w' ∧ RowTo w w' g cs' tt ∧ cs'.size = cur.size ∧ ∀ j, cs'[j]? = if o ≤ j ∧ j < o + x.cells.size then x.cells[j - o]? else cur[j]? := by
  obtain ⟨w', cs', hr, hrow, hsz, hall⟩ := storeCells_run (P := P) g o tt x.cells.toList 0 cur w hg (by simpa using hle) (fun v hv => h1 v (by simpa using hv))
  refine ⟨w', cs', ?_, hrow, hsz, fun j => ?_⟩
  · simp only [storeVar, Sem.run_bind, ti_sizeOf ht, Result.andThen, hs, ne_eq, not_true_eq_false, if_false]
    exact hr
  · rw [hall j]; simp

theorem vcells_top {v : V} {vs : List L} (hv : vcells v = some vs) (hx : vs = [.any]) : v = .one .any ∨ v = .agg [.any] := by
  cases v with
  | one l => cases hv; simp at hx; exact .inl (by rw [hx])
  | agg ls => cases hv; exact .inr (by rw [hx])
  | tup _ => cases hv

theorem RepV.cells' {v : V} {x : Value} {ls : List L} (hx : RepV w μ h v x) (hv : vcells v = some ls) (hk : known v = true) : ls.length = x.cells.size ∧ (∀ c ∈ x.cells, c.oneCell' = true) ∧ ∀ (j : Nat) (l : L) (c : Value), ls[j]? = some l → x.cells[j]? = some c → RepL w μ h l c := by
  cases hx with
  | one ho hl => exact (RepV.one ho hl).cells hv (.inr ho)
  | top => cases hk
  | agg hl hc h1 => cases hv; exact ⟨hl, h1, hc⟩
  | tup => cases hv

theorem vstore_sound {t : TypeId} {i : TI} (ht : ti P t = some i) (H : HRep w μ h) {p : L} {y : Value} {v : V} {x : Value} {h' : AHeap} (hk : known v = true)
    (hp : RepL w μ h p y) (hx : RepV w μ h v x) (hs : vstore h i p v = some h') :
    ∃ w', (Instr.storeAt t y x).run P w = .ok () w' ∧ HRep w' μ h' ∧ Good w μ h w' μ h' := by
  unfold vstore at hs
  split at hs
  · cases hs
  · rename_i vs hv
    obtain ⟨e1, e2, e3⟩ := hx.cells' hv hk
    split at hs
    · rename_i hsz
      split at hs
      · rename_i id off
        split at hs
        · rename_i cells hid
          split at hs
          · rename_i hle
            cases hs
            cases hp with
            | ptrDead hid' => rw [hid] at hid'; cases hid'
            | ptr hid' hoff hμ =>
              rw [hid] at hid'; cases hid'
              obtain ⟨b, cs, T, hb, hw, hcs, h1, hl⟩ := H.box _ _ hid
              rw [hμ] at hb; cases hb
              obtain ⟨w', cs', hr, hrow, hsz', hall⟩ := storeVar_run (P := P) (w := w) ht (x := x) (by omega) _ off cs T hw (by omega) e2
              have g : Good w μ h w' μ (h.set id (.box (splice cells off vs))) := Good.row hid rfl (by show _ = _; rw [splice_length _ _ _ hle]) hμ hw hrow hsz'
              refine ⟨w', by simp only [Instr.storeAt, Instr.sureAddr, Sem.run_bind, Sem.run_pure, Result.andThen, hr], ?_, g⟩
              refine H.row hid rfl (by show _ = _; rw [splice_length _ _ _ hle]) hμ hw hrow hsz' ⟨by rw [splice_length _ _ _ hle]; omega, ?_, ?_⟩
              · intro u hu
                obtain ⟨j, hj, rfl⟩ := Array.getElem_of_mem hu
                have := hall j
                rw [Array.getElem?_eq_getElem hj] at this
                split at this
                · exact e2 _ (Array.mem_of_getElem? this.symm)
                · exact h1 _ (Array.mem_of_getElem? this.symm)
              · intro j l u hj hu
                rw [splice_get _ _ _ hle] at hj
                rw [hall j, ← e1] at hu
                split at hj
                · rename_i hc; rw [if_pos hc] at hu; exact (e3 _ _ _ hj hu).good g
                · rename_i hc; rw [if_neg hc] at hu; exact (hl _ _ _ hj hu).good g
          · cases hs
        · cases hs
      · rename_i id ver k j
        split at hs
        · rename_i ds sz ver' xs hds hid
          split at hs
          · rename_i ev
            subst ev
            split at hs
            · rename_i e he
              split at hs
              · rename_i hle
                cases hs
                obtain ⟨H1, g1⟩ := fzLs_sound vs H
                obtain ⟨d1, d2⟩ := toDs_rep H1 hds
                have hp1 := hp.good g1
                cases hp1 with
                | ept hid' hk' hj' hμ =>
                  rw [hid] at hid'; cases hid'
                  rcases H1.arr _ _ _ _ _ hid with ⟨hn, _⟩ | ⟨b, cs, T, hb, hw, hcs, h1, hlen, hl⟩
                  · rw [hμ] at hn; cases hn
                  rw [hμ] at hb; cases hb
                  have hes := hlen _ _ he
                  have hkl := (List.getElem?_eq_some_iff.1 he).1
                  have hbound : k * sz + j + x.cells.size ≤ cs.size := by
                    have : k * sz + sz ≤ xs.length * sz := by rw [← Nat.succ_mul]; exact Nat.mul_le_mul_right _ hkl
                    omega
                  obtain ⟨w', cs', hr, hrow, hsz', hall⟩ := storeVar_run (P := P) (w := w) ht (x := x) (by omega) _ (k * sz + j) cs T hw hbound e2
                  have hfit : Fits (.arr false sz ver' xs) (.arr false sz ver' (xs.set k (splice e j ds))) := ⟨rfl, rfl, rfl, by simp⟩
                  have g2 : Good w μ (fzLs h vs) w' μ ((fzLs h vs).set id (.arr false sz ver' (xs.set k (splice e j ds)))) := Good.row hid rfl hfit hμ hw hrow hsz'
                  refine ⟨w', by simp only [Instr.storeAt, Instr.sureAddr, Sem.run_bind, Sem.run_pure, Result.andThen, hr], ?_, g1.trans g2⟩
                  refine H1.row hid rfl hfit hμ hw hrow hsz' ⟨by simp; omega, ?_, ?_, ?_⟩
                  · intro u hu
                    obtain ⟨q, hq, rfl⟩ := Array.getElem_of_mem hu
                    have := hall q
                    rw [Array.getElem?_eq_getElem hq] at this
                    split at this
                    · exact e2 _ (Array.mem_of_getElem? this.symm)
                    · exact h1 _ (Array.mem_of_getElem? this.symm)
                  · intro i' e' hi'
                    rw [List.getElem?_set] at hi'
                    by_cases hik : k = i'
                    · rw [if_pos hik, if_pos hkl] at hi'; cases hi'; rw [splice_length _ _ _ hle]; exact hes
                    · rw [if_neg hik] at hi'; exact hlen _ _ hi'
                  · intro i' j' e' x' hi' hj'
                    have hi0 := hi'
                    rw [List.getElem?_set] at hi'
                    have hjl : j' < sz := by
                      have := (List.getElem?_eq_some_iff.1 hj').1
                      by_cases hik : k = i'
                      · rw [if_pos hik, if_pos hkl] at hi'; cases hi'; rw [splice_length _ _ _ hle] at this; omega
                      · rw [if_neg hik] at hi'; have := hlen _ _ hi'; omega
                    by_cases hik : k = i'
                    · subst hik
                      rw [if_pos rfl, if_pos hkl] at hi'
                      cases hi'
                      rw [splice_get _ _ _ hle] at hj'
                      rw [hall]
                      split at hj'
                      · rename_i hc
                        rw [if_pos (by omega)]
                        have hjx : j' - j < x.cells.size := by omega
                        refine ⟨x.cells[j' - j], by rw [show k * sz + j' - (k * sz + j) = j' - j by omega, Array.getElem?_eq_getElem hjx], ?_⟩
                        have hl' : vs[j' - j]? = some vs[j' - j] := List.getElem?_eq_getElem (by omega)
                        exact (d2 _ _ _ _ hj' hl' ((e3 _ _ _ hl' (Array.getElem?_eq_getElem hjx)).good g1)).good g2
                      · rename_i hc
                        rw [if_neg (by omega)]
                        obtain ⟨u, hu, hd⟩ := hl _ _ _ _ he hj'
                        exact ⟨u, hu, hd.good g2⟩
                    · rw [if_neg hik] at hi'
                      obtain ⟨u, hu, hd⟩ := hl _ _ _ _ hi' hj'
                      refine ⟨u, ?_, hd.good g2⟩
                      rw [hall, if_neg, hu]
                      rintro ⟨a1, a2⟩
                      rcases Nat.lt_or_gt_of_ne hik with hlt | hgt
                      · have : k * sz + sz ≤ i' * sz := by rw [← Nat.succ_mul]; exact Nat.mul_le_mul_right _ hlt
                        omega
                      · have : i' * sz + sz ≤ k * sz := by rw [← Nat.succ_mul]; exact Nat.mul_le_mul_right _ hgt
                        omega
                | eptOld hid' hv' => rw [hid] at hid'; cases hid'; omega
                | eptDead hid' => rw [hid] at hid'; cases hid'
              · cases hs
            · cases hs
          · cases hs
        · cases hs
      · cases hs
    · cases hs

end Go.Vt
