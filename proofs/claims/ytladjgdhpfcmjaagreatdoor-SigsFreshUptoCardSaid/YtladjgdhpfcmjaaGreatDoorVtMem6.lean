/- Own framework, part 12c: bytes: a string appended, a string over bytes. -/
import Derived.Test.YtladjgdhpfcmjaaGreatDoorVtMem5
import Derived.Lib.UnsafeStr
import Derived.Lib.AppendStr
import Derived.Laws.Externs
import Derived.KernelRfl
namespace Go.Vt
variable {P : Program} {w w' : World} {μ : Pl} {h : AHeap} {T : Sl} {a : Act}

theorem srow_length (s : ByteArray) : (srow s).length = s.size := by
  show (s.data.toList.map _).length = s.data.size
  rw [List.length_map, Array.length_toList]

theorem srow_rows (s : ByteArray) (M : Nat → Prop) : RowsAt w M 1 (srow s) (Lib.strCells s) where
  len := by simp [srow, Lib.strCells]
  one v hv := by
    simp [Lib.strCells] at hv
    obtain ⟨b, _, rfl⟩ := hv
    rfl
  wide i e hi := by
    simp [srow] at hi
    obtain ⟨b, _, rfl⟩ := hi
    rfl
  cell i j e x hi hj := by
    simp only [srow, List.getElem?_map, Option.map_eq_some_iff] at hi
    obtain ⟨b, hb, rfl⟩ := hi
    cases j with
    | succ j => simp at hj
    | zero =>
      simp at hj
      subst hj
      exact ⟨.int .u8 b.toNat, by simp only [Lib.strCells, Nat.mul_one, Nat.add_zero, List.getElem?_map, hb, Option.map_some], .int _ _⟩

theorem isByte_spec {e : TypeId} (hb : isByte P e = true) : ∃ i, P.info? e = some i ∧ i.size = 1 ∧ i.bytes = 1 ∧ i.zero = some (.int .u8 0) := by
  unfold isByte at hb
  split at hb
  · rename_i i hi
    simp only [Bool.and_eq_true, beq_iff_eq] at hb
    obtain ⟨⟨h1, h2⟩, h3⟩ := hb
    split at h3
    · rename_i hz; exact ⟨i, hi, h1, h2, hz⟩
    · cases h3
  · cases hb

theorem u8zero (n : Nat) : ∀ v ∈ Builtin.zeroCells (Value.int .u8 0).cells n, v.oneCell' = true := zeroCells_one (by simp [Value.cells]; rfl) n

theorem vappS_sound {t u ty : TypeId} (H : HRep w μ h) {ls l : L} {s : ByteArray} {sv : Value} {h' : AHeap} (hs : RepL w μ h ls sv) (ha : vappS P h t u ls s = some (l, h')) :
    ∃ v' w' μ', (Builtin.append_ #[t, u] ty #[sv, .string s]).run P w = .ok v' w' ∧ HRep w' μ' h' ∧ RepL w' μ' h' l v' ∧ v'.oneCell' = true ∧ Good w μ h w' μ' h' := by
  unfold vappS at ha
  split at ha
  · rename_i e ht hu
    split at ha
    · rename_i hc
      obtain ⟨hb, hpos⟩ := hc
      obtain ⟨i, hi, hs1, hby, hz⟩ := isByte_spec hb
      have hnl : (Lib.strCells s).length = s.size := Lib.strCells_length s
      have hsl := srow_length s
      have hnews : RowsAt w (Mut μ h) 1 (srow s) (Lib.strCells s) := srow_rows s _
      split at ha
      · -- nil
        split at ha
        · rename_i hmax
          cases ha
          cases hs
          simp only [maxBytes] at hmax
          have hrun := run_append_nil_string (P := P) w t u ty e i _ ht hu hi hz s hpos (by omega) (by rw [hby]; omega)
          have hge := grownCap_ge w s.size 0 e
          have Hd := H.drew
          have gd := Good.drew w μ h
          have hcs : (s.data.map (fun b => Value.int .u8 b.toNat)) = (Lib.strCells s).toArray := by
            apply Array.toList_inj.1; simp [Lib.strCells]
          rw [hcs] at hrun
          generalize hcs' : (Lib.strCells s).toArray ++ Builtin.zeroCells (Value.int .u8 0).cells (grownCap w s.size 0 e - s.size) = cs' at hrun
          have hsz : cs'.size = grownCap w s.size 0 e := by
            rw [← hcs']
            simp only [Array.size_append, List.size_toArray, hnl, size_zeroCells]
            show s.size + _ * 1 = _
            omega
          have hone : ∀ v ∈ cs', v.oneCell' = true := by
            intro v hv
            rw [← hcs'] at hv
            simp only [Array.mem_append, List.mem_toArray] at hv
            rcases hv with hv | hv
            · exact hnews.one v hv
            · exact u8zero _ v hv
          have hcell : ∀ (i j : Nat) (el : List D) (x : D), (srow s)[i]? = some el → el[j]? = some x → ∃ v, cs'[i * 1 + j]? = some v ∧ RepD w (Mut μ h) x v := by
            intro i j el x hi hj
            obtain ⟨v, a1, a2⟩ := hnews.cell i j el x hi hj
            refine ⟨v, ?_, a2⟩
            have := (List.getElem?_eq_some_iff.1 a1).1
            rw [← hcs', Array.getElem?_append_left (by simpa using this)]
            simpa using a1
          have hheap : (w.drew.alloc (.cells cs' e)).heap[w.heap.size]? = some (.cells cs' e (0, 0)) := heap_alloc_new w.drew _
          refine ⟨_, _, _, hrun, Hd.push (o := .ar (some e) false 1 0 (srow s)) ⟨by omega, hone, hnews.wide, fun i j el x hi hj => let ⟨v, a, b⟩ := hcell i j el x hi hj; ⟨v, a, b.good gd⟩⟩ ⟨cs'.size, ?_⟩, ?_, rfl, gd.trans (Good.push _ _ _ _ _)⟩
          · show World.shape? _ _ = _
            have : (w.drew.alloc (.cells cs' e)).heap[w.drew.heap.size]? = some (.cells cs' e (0, 0)) := hheap
            simp only [World.shape?, this]
          · exact .own (ty := some e) (fz := false) (sz := 1) (xs := srow s) (by simp) (by omega) (Pl.put_same _ _ _) hge hheap (by omega)
        · cases ha
      · -- own
        rename_i id ver len
        split at ha
        · rename_i e' sz ver' xs hid
          split at ha
          · rename_i hcnd
            obtain ⟨rfl, rfl, rfl, hmax⟩ := hcnd
            cases ha
            simp only [maxBytes] at hmax
            have hidl := (List.getElem?_eq_some_iff.1 hid).1
            have hget : (h.set id (.ar (some e') false 1 (ver' + 1) (xs.take len ++ srow s)))[id]? = some (.ar (some e') false 1 (ver' + 1) (xs.take len ++ srow s)) := by simp [hidl]
            cases hs with
            | ownOld hid' hv => rw [hid] at hid'; cases hid'; omega
            | ownDead hid' => rw [hid] at hid'; cases hid'
            | ownNil hid' hμ =>
              have hrun := run_append_nil_string (P := P) w t u ty e' i _ ht hu hi hz s hpos (by omega) (by rw [hby]; omega)
              have hge := grownCap_ge w s.size 0 e'
              have hcs : (s.data.map (fun b => Value.int .u8 b.toNat)) = (Lib.strCells s).toArray := by
                apply Array.toList_inj.1; simp [Lib.strCells]
              rw [hcs] at hrun
              generalize hcs' : (Lib.strCells s).toArray ++ Builtin.zeroCells (Value.int .u8 0).cells (grownCap w s.size 0 e' - s.size) = cs' at hrun
              have hsz : cs'.size = grownCap w s.size 0 e' := by
                rw [← hcs']
                simp only [Array.size_append, List.size_toArray, hnl, size_zeroCells]
                show s.size + _ * 1 = _
                omega
              have hone : ∀ v ∈ cs', v.oneCell' = true := by
                intro v hv
                rw [← hcs'] at hv
                simp only [Array.mem_append, List.mem_toArray] at hv
                rcases hv with hv | hv
                · exact hnews.one v hv
                · exact u8zero _ v hv
              have hheap : (w.drew.alloc (.cells cs' e')).heap[w.heap.size]? = some (.cells cs' e' (0, 0)) := heap_alloc_new w.drew _
              have B : Bump w μ id (w.drew.alloc (.cells cs' e')) (μ.put id (some w.heap.size)) :=
                ⟨rfl, rfl, rfl, by simp, fun b hb _ => Go.RowKit.Below.heap_alloc w.drew _ b hb, fun b c T fr hb => ⟨c, _, (Go.RowKit.Below.heap_alloc w.drew _ b (Array.getElem?_eq_some_iff.1 hb).1).trans hb, rfl⟩, fun k hk => Pl.put_other _ _ _ _ hk, rfl, fun b hb => by rw [Pl.put_same] at hb; cases hb; exact .inr (Nat.le_refl _)⟩
              have hx0 : xs.take 0 ++ srow s = srow s := by simp
              rw [hx0] at hget ⊢
              refine ⟨_, _, _, hrun, H.bump B hid (.inr ⟨w.heap.size, cs', e', Pl.put_same _ _ _, hheap, by omega, hone, hnews.wide, ?_⟩) ?_, ?_, rfl, Good.bump B hid⟩
              · intro i j el x hi hj
                obtain ⟨v, a1, a2⟩ := hnews.cell i j el x hi hj
                refine ⟨v, ?_, a2⟩
                have := (List.getElem?_eq_some_iff.1 a1).1
                rw [← hcs', Array.getElem?_append_left (by simpa using this)]
                simpa using a1
              · intro b hb
                rw [Pl.put_same] at hb; cases hb
                exact ⟨cs'.size, by simp only [World.shape?, hheap]⟩
              · rw [Nat.zero_add]
                exact .own hget (by omega) (Pl.put_same _ _ _) hge hheap (by omega)
            | @own _ _ _ _ _ _ _ _ b0 cap0 cs0 T0 hid' hl hμ hcap hb0 hcs =>
              rw [hid] at hid'; cases hid'
              rcases H.arr _ _ _ _ _ hid with ⟨hn', _⟩ | ⟨b, cs, T, q1, q2, q3, q4, q5, q6⟩
              · rw [hμ] at hn'; cases hn'
              rw [hμ] at q1; cases q1
              rw [hb0] at q2; cases q2
              obtain ⟨n0, hn0⟩ := H.ty _ _ _ hid hμ
              have hT : T0 = e' := by
                unfold World.shape? at hn0; rw [hb0] at hn0; cases hn0; rfl
              subst hT
              rw [Nat.mul_one] at hcs q3
              have hlen0 : (xs.take len).length = len := by simp; omega
              have hgetx : ∀ {i : Nat} {el : List D}, (xs.take len)[i]? = some el → xs[i]? = some el := by
                intro i el hi
                have : i < len := by have := (List.getElem?_eq_some_iff.1 hi).1; omega
                rwa [List.getElem?_take_of_lt this] at hi
              have hrows : RowsAt w (Mut μ h) 1 (xs.take len) (cs0.toList.take len) := by
                refine ⟨by simp [hlen0]; omega, fun v hv => q4 v (by simpa using List.mem_of_mem_take hv), fun i el hi => q5 i el (hgetx hi), fun i j el x hi hj => ?_⟩
                obtain ⟨v, a1, a2⟩ := q6 i j el x (hgetx hi) hj
                refine ⟨v, ?_, a2⟩
                have hil : i < len := by have := (List.getElem?_eq_some_iff.1 hi).1; omega
                have hjl : j < 1 := by have := (List.getElem?_eq_some_iff.1 hj).1; rw [q5 i el (hgetx hi)] at this; exact this
                rw [List.getElem?_take_of_lt (by omega)]
                simpa using a1
              have hra := hrows.append hnews
              have hral : (cs0.toList.take len ++ Lib.strCells s).length = len + s.size := by simp [hnl]; omega
              by_cases hroom : len + s.size ≤ cap0
              · -- in place
                have hrun := Lib.run_append_room_string (P := P) w t u ty T0 i ht hu hi hs1 b0 len cap0 cs0 hb0 s hroom (by omega)
                generalize hcs' : (cs0.toList.take len ++ Lib.strCells s ++ cs0.toList.drop (len + s.size)).toArray = cs' at hrun
                have hsz' : cs'.size = cs0.size := by rw [← hcs']; simp [hnl]; omega
                have hrow : (w.setRow b0 cs').heap[b0]? = some (.cells cs' T0 (0, 0)) := by simp [World.setRow, Array.getElem?_modify, hb0]
                have hoth : ∀ b, b ≠ b0 → (w.setRow b0 cs').heap[b]? = w.heap[b]? := by
                  intro b hb
                  simp [World.setRow, Array.getElem?_modify, Ne.symm hb]
                have B : Bump w μ id (w.setRow b0 cs') μ := ⟨rfl, rfl, rfl, by simp [World.setRow], fun b hb' hne => hoth b (fun e => hne (e ▸ hμ)), fun b c T fr hb' => by
                    by_cases e : b = b0
                    · subst e; rw [hb0] at hb'; cases hb'; exact ⟨cs', _, hrow, hsz'⟩
                    · exact ⟨c, _, (hoth b e).trans hb', rfl⟩, fun _ _ => rfl, rfl, fun b hb' => .inl hb'⟩
                have hcg : ∀ k, k < len + s.size → cs'[k]? = (cs0.toList.take len ++ Lib.strCells s)[k]? := by
                  intro k hk
                  rw [← hcs']
                  simp only [List.getElem?_toArray]
                  rw [List.getElem?_append_left (by omega)]
                refine ⟨_, _, μ, hrun, H.bump B hid (.inr ⟨b0, cs', T0, hμ, hrow, ?_, ?_, hra.wide, ?_⟩) ?_, ?_, rfl, Good.bump B hid⟩
                · rw [hsz', List.length_append, hlen0, hsl]; omega
                · intro v hv
                  rw [← hcs'] at hv
                  simp only [List.mem_toArray, List.mem_append] at hv
                  rcases hv with (hv | hv) | hv
                  · exact q4 v (by simpa using List.mem_of_mem_take hv)
                  · exact hnews.one v hv
                  · exact q4 v (by simpa using List.mem_of_mem_drop hv)
                · intro i j el x hi hj
                  obtain ⟨v, a1, a2⟩ := hra.cell i j el x hi hj
                  refine ⟨v, ?_, a2⟩
                  rw [hcg _ (by have := (List.getElem?_eq_some_iff.1 a1).1; omega)]
                  exact a1
                · intro b hb
                  rw [hμ] at hb; cases hb
                  exact ⟨cs'.size, by simp only [World.shape?, hrow]⟩
                · exact .own hget (by rw [List.length_append, hlen0, hsl]; omega) hμ hroom hrow (by omega)
              · -- grown
                have hrun := Lib.run_append_grow_string (P := P) w t u ty T0 i _ ht hu hi hz ⟨b0, 0, none⟩ len cap0 (cs0.toList.take len) (by rw [hs1]; simp; omega) (fun j v hv => by
                  have hj : j < len := by have := (List.getElem?_eq_some_iff.1 hv).1; simp at this; omega
                  rw [List.getElem?_take_of_lt hj] at hv
                  rw [add_lit, Nat.zero_add, cell_row hb0]
                  simpa using hv) s (by omega) (by omega) (growslice_room (by omega) (by rw [hby]; simp only [maxBytes]; omega))
                have hge := grownCap_ge w (len + s.size) cap0 T0
                generalize hcs' : (cs0.toList.take len).toArray ++ (Lib.strCells s).toArray ++ Builtin.zeroCells (Value.int .u8 0).cells (grownCap w (len + s.size) cap0 T0 - (len + s.size)) = cs' at hrun
                have hsz' : cs'.size = grownCap w (len + s.size) cap0 T0 := by
                  rw [← hcs']
                  simp only [Array.size_append, List.size_toArray, hnl, size_zeroCells, List.length_take, Array.length_toList]
                  show min len cs0.size + s.size + _ * 1 = _
                  omega
                have hone : ∀ v ∈ cs', v.oneCell' = true := by
                  intro v hv
                  rw [← hcs'] at hv
                  simp only [Array.mem_append, List.mem_toArray] at hv
                  rcases hv with (hv | hv) | hv
                  · exact q4 v (by simpa using List.mem_of_mem_take hv)
                  · exact hnews.one v hv
                  · exact u8zero _ v hv
                have hcg : ∀ k, k < len + s.size → cs'[k]? = (cs0.toList.take len ++ Lib.strCells s)[k]? := by
                  intro k hk
                  rw [← hcs', Array.getElem?_append_left (by simp [hnl]; omega)]
                  simp
                have hheap : (w.drew.alloc (.cells cs' T0)).heap[w.heap.size]? = some (.cells cs' T0 (0, 0)) := heap_alloc_new w.drew _
                have B : Bump w μ id (w.drew.alloc (.cells cs' T0)) (μ.put id (some w.heap.size)) :=
                  ⟨rfl, rfl, rfl, by simp, fun b hb _ => Go.RowKit.Below.heap_alloc w.drew _ b hb, fun b c T fr hb => ⟨c, _, (Go.RowKit.Below.heap_alloc w.drew _ b (Array.getElem?_eq_some_iff.1 hb).1).trans hb, rfl⟩, fun k hk => Pl.put_other _ _ _ _ hk, rfl, fun b hb => by rw [Pl.put_same] at hb; cases hb; exact .inr (Nat.le_refl _)⟩
                refine ⟨_, _, _, hrun, H.bump B hid (.inr ⟨w.heap.size, cs', T0, Pl.put_same _ _ _, hheap, ?_, hone, hra.wide, ?_⟩) ?_, ?_, rfl, Good.bump B hid⟩
                · rw [List.length_append, hlen0, hsl]; omega
                · intro i j el x hi hj
                  obtain ⟨v, a1, a2⟩ := hra.cell i j el x hi hj
                  refine ⟨v, ?_, a2⟩
                  rw [hcg _ (by have := (List.getElem?_eq_some_iff.1 a1).1; omega)]
                  exact a1
                · intro b hb
                  rw [Pl.put_same] at hb; cases hb
                  exact ⟨cs'.size, by simp only [World.shape?, hheap]⟩
                · exact .own hget (by rw [List.length_append, hlen0, hsl]; omega) (Pl.put_same _ _ _) hge hheap (by omega)
          · cases ha
        · cases ha
      · cases ha
    · cases ha
  · cases ha

theorem vsdata_sound {ts : Array TypeId} {ty : TypeId} {l l' : L} {v : Value} (H : HRep w μ h) (hl : RepL w μ h l v) (hd : vsdata h l = some l') :
    ∃ v', (Builtin.unsafeSliceData_ ts ty #[v]).run P w = .ok v' w ∧ RepL w μ h l' v' ∧ v'.oneCell' = true := by
  unfold vsdata at hd
  split at hd
  · cases hd; cases hl; exact ⟨_, rfl, .d .nilp, rfl⟩
  · rename_i id ver n
    split at hd
    · rename_i ty' fz sz ver' xs hid
      split at hd
      · rename_i e; subst e
        cases hd
        cases hl with
        | @own _ _ _ _ _ _ _ _ b cap cs T hid' hl hμ hcap hb hcs =>
          rw [hid] at hid'; cases hid'
          refine ⟨_, Lib.run_unsafeSliceData_row w ts ty _ _ _ (by omega), ?_, rfl⟩
          have := RepL.ept (w := w) (j := 0) hid (by omega : 0 < xs.length) (Nat.zero_le _) hμ
          simpa using this
        | ownOld hid' hv => rw [hid] at hid'; cases hid'; omega
        | ownDead hid' => rw [hid] at hid'; cases hid'
      · cases hd
    · cases hd
  · cases hd

theorem Good.kill {id b : Nat} {o : AObj} (hid : h[id]? = some o) (hl : o.live = true) (hμ : μ id = some b) (os : w'.os = w.os) (tape : w'.tape = w.tape) (output : w'.output = w.output) (size : w'.heap.size = w.heap.size)
    (block : ∀ c, c ≠ b → w'.heap[c]? = w.heap[c]?) (shape : ∀ (b : Nat) (cs : Array Value) (T : TypeId) (fr : Nat × Nat), w.heap[b]? = some (Obj.cells cs T fr) → ∃ (cs' : Array Value) (fr' : Nat × Nat), w'.heap[b]? = some (Obj.cells cs' T fr') ∧ cs'.size = cs.size) :
    Good w μ h w' μ (h.set id .dead) := by
  have hlt := (List.getElem?_eq_some_iff.1 hid).1
  have hdead : (h.set id .dead)[id]? = some .dead := by simp [hlt]
  exact {
    os := os, tape := tape, output := output, size := Nat.le_of_eq size.symm, out := rfl
    block := fun c hc hn => block c (fun e => hn ⟨id, o, hid, hl, e ▸ hμ⟩)
    shape := shape
    fresh := fun c hc => by
      obtain ⟨k, o', h1, h2, h3⟩ := hc
      rcases get_set h1 with ⟨_, e⟩ | ⟨hne, h1⟩
      · subst e; cases h2
      · exact .inl ⟨k, o', h1, h2, h3⟩
    len := by simp
    boxes := fun k ty cells hk => by
      by_cases e : k = id
      · subst e; exact .inl hdead
      · exact .inr ⟨cells, ty, by rw [List.getElem?_set_ne (Ne.symm e)]; exact hk, rfl, rfl⟩
    arrs := fun k ty fz sz ver xs hk => by
      by_cases e : k = id
      · subst e; exact .inl hdead
      · exact .inr ⟨fz, sz, ver, xs, ty, by rw [List.getElem?_set_ne (Ne.symm e)]; exact hk, .inl ⟨rfl, rfl, rfl, rfl⟩⟩
    deads := fun k hk => by
      by_cases e : k = id
      · subst e; exact hdead
      · rw [List.getElem?_set_ne (Ne.symm e)]; exact hk }

theorem HRep.kill {id b : Nat} {o : AObj} (H : HRep w μ h) (hid : h[id]? = some o) (hl : o.live = true) (hμ : μ id = some b) (g : Good w μ h w' μ (h.set id .dead)) (block : ∀ c, c ≠ b → w'.heap[c]? = w.heap[c]?) : HRep w' μ (h.set id .dead) := by
  have same : ∀ {k c : Nat} {o' : AObj}, h[k]? = some o' → o'.there = true → k ≠ id → μ k = some c → w'.heap[c]? = w.heap[c]? := by
    intro k c o' ho ht hne hm
    refine block c (fun e => hne ?_)
    subst e
    exact (H.apart _ _ _ _ _ hid ho hl ht hμ hm).symm
  refine ⟨?_, ?_, ?_, ?_, fun b hb => Nat.lt_of_lt_of_le (H.old b hb) g.size, fun i o' c hi hc => ?_⟩
  · intro k ty cells hk
    rcases get_set hk with ⟨_, e⟩ | ⟨hne, hk⟩
    · cases e
    · obtain ⟨c, cs, T, h1, h2, h3, h4, h5⟩ := H.box _ _ hk
      exact ⟨c, cs, T, h1, (same hk rfl hne h1).trans h2, h3, h4, fun j l v hj hv => (h5 j l v hj hv).good g⟩
  · intro k ty fz sz ver xs hk
    rcases get_set hk with ⟨_, e⟩ | ⟨hne, hk⟩
    · cases e
    · rcases H.arr _ _ _ _ _ hk with hn | ⟨c, cs, T, h1, h2, h3, h4, h5, h6⟩
      · exact .inl hn
      · exact .inr ⟨c, cs, T, h1, (same hk rfl hne h1).trans h2, h3, h4, h5, fun i j e x hi hj => let ⟨v, a, d⟩ := h6 i j e x hi hj; ⟨v, a, d.good g⟩⟩
  · intro i j o1 o2 c hi hj t1 t2 m1 m2
    rcases get_set hi with ⟨_, e⟩ | ⟨hne, hi⟩
    · subst e; cases t1
    · rcases get_set hj with ⟨_, e⟩ | ⟨hne', hj⟩
      · subst e; cases t2
      · exact H.apart _ _ _ _ c hi hj t1 t2 m1 m2
  · intro i o1 c hi t1 m1
    rcases get_set hi with ⟨_, e⟩ | ⟨hne, hi⟩
    · subst e; cases t1
    · exact H.off _ _ _ hi t1 m1
  · rcases get_set hi with ⟨_, e⟩ | ⟨hne, hi⟩
    · subst e; trivial
    · exact (H.ty _ _ _ hi hc).good g

theorem rowBytes_get : ∀ {rs : List (List D)} {bs : List UInt8}, rowBytes rs = some bs → bs.length = rs.length ∧ ∀ (j : Nat) (b : UInt8), bs[j]? = some b → rs[j]? = some [.int .u8 b.toNat]
  | [], bs, hb => by cases hb; exact ⟨rfl, by simp⟩
  | r :: rs, bs, hb => by
    unfold rowBytes at hb
    split at hb
    · rename_i b bs' h1 h2
      cases hb
      obtain ⟨e1, e2⟩ := rowBytes_get h2
      refine ⟨by simp [e1], fun j x hj => ?_⟩
      cases j with
      | zero =>
        simp at hj; subst hj
        unfold rowByte at h1
        split at h1
        · rename_i n
          split at h1
          · rename_i hn
            cases h1
            have : (n.toNat.toUInt8.toNat : Int) = n := by
              have h1 : n.toNat < 256 := by omega
              simp [Nat.mod_eq_of_lt h1]; omega
            simp only [List.getElem?_cons_zero, this]
          · cases h1
        · cases h1
      | succ j => exact e2 j x (by simpa using hj)
    · cases hb

theorem vustr_sound {pt it ty : TypeId} {l : L} {n : Int} {p : Value} {v : V} {h' : AHeap} (H : HRep w μ h) (hl : RepL w μ h l p) (hd : vustr P h pt l n = some (v, h')) :
    ∃ v' w', (Builtin.unsafeString_ #[pt, it] ty #[p, .int .i64 n]).run P w = .ok v' w' ∧ HRep w' μ h' ∧ RepV w' μ h' v v' ∧ Good w μ h w' μ h' := by
  unfold vustr at hd
  split at hd
  · cases hd
    cases hl with | d hx =>
    cases hx
    exact ⟨_, w, Lib.run_unsafeString_none w pt it ty none, H, .one rfl (.d (.str _)), Good.refl _ _ _⟩
  · rename_i id ver k
    split at hd
    · rename_i e ver' xs e' hid hu
      split at hd
      · rename_i hc
        obtain ⟨rfl, rfl, hc1, hk, hmax⟩ := hc
        simp only [maxBytes] at hmax
        split at hd
        · rename_i bs hbs
          cases hd
          obtain ⟨r1, r2⟩ := rowBytes_get hbs
          have hbl : bs.length = k + 1 := by rw [r1]; simp; omega
          cases hl with
          | eptOld hid' hv => rw [hid] at hid'; cases hid'; omega
          | eptDead hid' => rw [hid] at hid'; cases hid'
          | @ept _ _ _ _ _ _ _ _ b hid' hi hj hμ =>
          rw [hid] at hid'; cases hid'
          rcases H.arr _ _ _ _ _ hid with ⟨hn', _⟩ | ⟨b', cs, T, q1, q2, q3, q4, q5, q6⟩
          · rw [hμ] at hn'; cases hn'
          rw [hμ] at q1; cases q1
          obtain ⟨n0, hn0⟩ := H.ty _ _ _ hid hμ
          have hsh : w.shape? b = some (e', cs.size) := by
            unfold World.shape? at hn0 ⊢; rw [q2] at hn0 ⊢; cases hn0; rfl
          have hcell : ∀ (j : Nat) (x : UInt8), bs[j]? = some x → w.cell? ((⟨b, 0, none⟩ : Addr).add j) = some (.int .u8 x.toNat) := by
            intro j x hj
            have h1 := r2 j x hj
            have hjl : j < k + 1 := by have := (List.getElem?_eq_some_iff.1 hj).1; omega
            rw [List.getElem?_take_of_lt hjl] at h1
            obtain ⟨u, hu1, hu2⟩ := q6 j 0 _ _ h1 rfl
            cases hu2
            rw [add_lit, Nat.zero_add, cell_row q2]
            simpa using hu1
          have hrun := Lib.run_unsafeString_row (P := P) w pt it ty e' hu hc1 b cs.size hsh bs (by intro e; rw [e] at hbl; simp at hbl) (by omega) (by omega) hcell
          have hblk : ∀ c, c ≠ b → (w.freeze ⟨b, 0, none⟩ bs.length).heap[c]? = w.heap[c]? := by
            intro c hc
            unfold World.freeze
            rw [if_neg (by omega)]
            simp [Array.getElem?_modify, Ne.symm hc]
          have hshp : ∀ (b0 : Nat) (cs : Array Value) (T : TypeId) (fr : Nat × Nat), w.heap[b0]? = some (Obj.cells cs T fr) → ∃ (cs' : Array Value) (fr' : Nat × Nat), (w.freeze ⟨b, 0, none⟩ bs.length).heap[b0]? = some (Obj.cells cs' T fr') ∧ cs'.size = cs.size := by
            intro b0 cs T fr hb0
            unfold World.freeze
            rw [if_neg (by omega)]
            by_cases e : b = b0
            · subst e
              simp only [Array.getElem?_modify, if_true, hb0, Option.map_some]
              exact ⟨_, _, rfl, rfl⟩
            · simp only [Array.getElem?_modify, if_neg e, hb0]
              exact ⟨_, _, rfl, rfl⟩
          have g : Good w μ h (w.freeze ⟨b, 0, none⟩ bs.length) μ (h.set id .dead) := Good.kill hid rfl hμ (by unfold World.freeze; split <;> rfl) (by unfold World.freeze; split <;> rfl) (by unfold World.freeze; split <;> rfl) (by unfold World.freeze; split <;> simp) hblk hshp
          refine ⟨_, _, ?_, H.kill hid rfl hμ g hblk, .one rfl (.d (.str ⟨bs.toArray⟩)), g⟩
          have e1 : (0 * 1 + 0 : Nat) = 0 := rfl
          have e2 : (Int.ofNat (k + 1)) = ((bs.length : Nat) : Int) := by rw [hbl]; rfl
          rw [e2]
          exact hrun
        · cases hd
      · cases hd
    · cases hd
  · cases hd

theorem noEsc_run {f : FuncId} (hf : noEsc P f = true) (x : Value) : (callFunc f #[x]).run P w = .ok (.value x) w := by
  unfold noEsc at hf
  split at hf
  · rename_i fn hfn
    simp only [Bool.and_eq_true, beq_iff_eq] at hf
    obtain ⟨⟨h1, h2⟩, h3⟩ := hf
    have e1 : Extern.allNextRows.lookup "internal/abi.NoEscape" = none := by kernel_rfl
    have e2 : Extern.allNextRows.lookup "" = none := by kernel_rfl
    have e3 : Extern.allGenericRows.lookup "internal/abi.NoEscape" = none := by kernel_rfl
    have e4 : Extern.allTypedRows.lookup "internal/abi.NoEscape" = none := by kernel_rfl
    have e5 : Extern.allRows.lookup "internal/abi.NoEscape" = some Extern.AbiNoEscape.same := by kernel_rfl
    rw [run_callFunc_extern hfn (by rw [h1]; rfl) h2 (by simp [Extern.findNext, h1, h3, e1, e2]) (by simp only [Extern.find, h1, e3, e4, e5]; rfl)]
    rfl
  · cases hf

end Go.Vt
