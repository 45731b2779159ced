/- Own framework, part 27: slices.Compact of strings, by the kit's contract. -/
import Derived.Test.YtladjgdhpfcmjaaGreatDoorVtDefer
import Derived.Shelf.Slices.In.CompactS
import Derived.Sort.EveryDepth
import Derived.KernelRfl
namespace Go.Vt
open Go.Proofs Go.Shelf Go.Sort

def srows (zs : List (List UInt8)) : List (List D) := zs.map fun l => [.str ⟨l.toArray⟩]

theorem srows_get {zs : List (List UInt8)} {i : Nat} {l : List UInt8} (h : zs[i]? = some l) : (srows zs)[i]? = some [.str ⟨l.toArray⟩] := by simp [srows, h]

theorem callsIn_of_list {P : Program} {f : FuncId} {args : Array Value} {w : World} {R : Ending → World → Prop} (h : ∀ D, CallsIn (Fence.list [f] (some D)) 0 P f args w R) : CallsIn Fence.wide 0 P f args w R := callsIn_wide.2 (calls_of_every_depth h)

theorem rowTo_put {w : World} {b q : Nat} {cs : Array Value} {T : TypeId} (d : Array (List UInt8)) (hb : w.heap[b]? = some (.cells cs T (0, 0))) : RowTo w (putRow encStr (Sort.ahead w q) b 0 d) b (putCells encStr 0 d cs) T where
  os := rfl
  tape := rfl
  output := rfl
  size := by simp [putRow, mapBlock, Sort.ahead]
  other k hk := by
    simp only [putRow, mapBlock, Sort.ahead]
    rw [Array.getElem?_modify, if_neg (fun e => hk e.symm)]
  row := by
    simp only [putRow, mapBlock, Sort.ahead]
    rw [Array.getElem?_modify, if_pos rfl, hb]
    rfl

theorem compact_le (zs : List (List UInt8)) : (Lib.compact zs).length ≤ zs.length := by
  unfold Lib.compact Lib.compactUpTo
  rw [List.length_map]
  have := List.length_filter_le (Lib.keeps zs.toArray) (List.range zs.length)
  simpa using this

theorem vc_compactS {P : Program} {ρ : Ren} (L : Lays.n194 P ρ) (hcal : callable P (ρ.f 194) = true) (ver : Nat) (zs : List (List UInt8)) (hsz : zs.length < 1099511627776) :
    VC P (ρ.f 194) [.one (.own 0 ver zs.length)] [.arr false 1 ver (srows zs)] fun r h' => r = .one (.own 0 ver (Lib.compact zs).length) ∧ h' = [.arr false 1 ver (srows (Lib.compact zs ++ List.replicate (zs.length - (Lib.compact zs).length) []))] := by
  refine ⟨hcal, fun w μ args H hl ha => ?_⟩
  have hle := compact_le zs
  match args, hl with
  | ⟨[v]⟩, _ =>
    have hv := ha 0 _ v rfl rfl
    generalize hn : zs.length = nz at hv
    have hid : [AObj.arr false 1 ver (srows zs)][0]? = some (.arr false 1 ver (srows zs)) := rfl
    cases hv with
    | one ho hl =>
      cases hl with
      | ownOld h1 h2 => rw [hid] at h1; cases h1; omega
      | ownDead h1 => rw [hid] at h1; cases h1
      | ownNil h1 hμ =>
        have hz : zs = [] := List.eq_nil_of_length_eq_zero hn
        subst hz
        refine (callsIn_of_list fun D => AnyS.slices_Compact_string_empty_in L D none 0 w).mono ?_
        rintro e w' ⟨rfl, rfl⟩
        exact ⟨_, _, _, μ, rfl, ⟨rfl, rfl⟩, H, .one rfl (.ownNil hid hμ), Good.refl _ _ _⟩
      | @own _ _ _ _ _ _ _ _ b cap cs T h1 hlen hμ hcap hb hcs =>
        subst hn
        rw [hid] at h1; cases h1
        rcases H.arr _ _ _ _ _ hid with ⟨hn', _⟩ | ⟨b', cs', T', q1, q2, q3, q4, q5, q6⟩
        · rw [hμ] at hn'; cases hn'
        rw [hμ] at q1; cases q1
        rw [hb] at q2; cases q2
        have hH : Holds encStr w b 0 zs.toArray := by
          intro j hj
          have hj' : j < zs.length := by simpa using hj
          obtain ⟨u, hu, hr⟩ := q6 j 0 _ _ (srows_get (List.getElem?_eq_getElem hj')) rfl
          constructor
          · unfold World.cell?
            simp only [hb, Nat.zero_add]
            rw [show j * 1 + 0 = j by omega] at hu
            cases hr
            simpa [hj'] using hu
          · unfold World.frozen?
            simp [hb]
        refine (callsIn_of_list fun D => AnyS.slices_Compact_string_in L D b 0 cap zs w hH (by omega) hcap).mono ?_
        rintro e w' ⟨rfl, q, rfl⟩
        generalize hys : Lib.compact zs ++ List.replicate (zs.length - (Lib.compact zs).length) [] = ys
        have hyl : ys.length = zs.length := by rw [← hys]; simp; omega
        have hrow := rowTo_put (q := q) ys.toArray hb
        have hsz' : (putCells encStr 0 ys.toArray cs).size = cs.size := by simp [putCells]
        have hfit : Fits (.arr false 1 ver (srows zs)) (.arr false 1 ver (srows ys)) := ⟨rfl, rfl, rfl, rfl, by simp [srows, hyl]⟩
        have hzs : zs.length ≤ cs.size := by simpa [srows] using q3
        have hnew : NewOk (putRow encStr (Sort.ahead w q) b 0 ys.toArray) μ ([AObj.arr false 1 ver (srows zs)].set 0 (.arr false 1 ver (srows ys))) (putCells encStr 0 ys.toArray cs) (.arr false 1 ver (srows ys)) := by
          refine ⟨?_, ?_, ?_, ?_⟩
          · rw [hsz']; simpa [srows, hyl] using hzs
          · intro u hu
            obtain ⟨k, hk, rfl⟩ := Array.getElem_of_mem hu
            simp only [putCells, Array.getElem_mapIdx]
            split
            · rfl
            · exact q4 _ (Array.getElem_mem _)
          · intro i e hi
            simp only [srows, List.getElem?_map, Option.map_eq_some_iff] at hi
            obtain ⟨l, _, rfl⟩ := hi
            rfl
          · intro i j e x hi hj
            simp only [srows, List.getElem?_map, Option.map_eq_some_iff] at hi
            obtain ⟨l, hl, rfl⟩ := hi
            have hlt : i < ys.length := (List.getElem?_eq_some_iff.1 hl).1
            cases j with
            | succ j => simp at hj
            | zero =>
              simp at hj
              subst hj
              have hlt2 : i < cs.size := by omega
              refine ⟨encStr l, ?_, .str _⟩
              have : (putCells encStr 0 ys.toArray cs)[i * 1 + 0]? = some ((putCells encStr 0 ys.toArray cs)[i]'(by rw [hsz']; exact hlt2)) := by
                rw [show i * 1 + 0 = i by omega]; exact Array.getElem?_eq_getElem _
              rw [this]
              simp only [putCells, Array.getElem_mapIdx]
              rw [if_pos ⟨Nat.zero_le _, by simpa using hlt⟩]
              congr 2
              have : ys[i] = l := by rw [List.getElem?_eq_getElem hlt] at hl; exact Option.some.inj hl
              simpa [hlt] using this
        have g := Good.row (h := [AObj.arr false 1 ver (srows zs)]) hid rfl hfit hμ hb hrow hsz'
        have H' := H.row hid rfl hfit hμ hb hrow hsz' hnew
        refine ⟨_, _, _, μ, rfl, ⟨rfl, rfl⟩, H', .one rfl (.own (ty := none) (fz := false) (sz := 1) (xs := srows ys) rfl (by simp [srows]; omega) hμ (by omega) hrow.row (by rw [hsz']; exact hcs)), g⟩

def textsOf : List (List D) → Option (List (List UInt8))
  | [] => some []
  | [.str s] :: r => match textsOf r with
    | some l => some (s.data.toList :: l)
    | none => none
  | _ => none

def evCompact (f : FuncId) : Caller := fun g avs h => match Nat.beq g f, avs, h with
  | true, [.one (.own 0 ver n)], [.arr false 1 ver' rows] => match textsOf rows with
    | some zs => if Nat.beq ver ver' = true ∧ Nat.beq n zs.length = true ∧ Nat.blt zs.length 1000000 = true ∧ beqDss (srows zs) rows = true then
        some (.one (.own 0 ver (Lib.compact zs).length), [.arr false 1 ver (srows (Lib.compact zs ++ List.replicate (zs.length - (Lib.compact zs).length) []))]) else none
    | none => none
  | _, _, _ => none

theorem evCompact_tells {P : Program} {ρ : Ren} (L : Lays.n194 P ρ) (hcal : callable P (ρ.f 194) = true) : Tells P (evCompact (ρ.f 194)) := by
  intro f avs h r h' he
  unfold evCompact at he
  split at he
  · rename_i g ver n ver' rows hf
    have := nat_beq hf
    subst this
    split at he
    · rename_i zs hz
      split at he
      · rename_i hc
        obtain ⟨h1, h2, h3, h4⟩ := hc
        cases he
        have e1 := nat_beq h1
        have e2 := nat_beq h2
        have e3 := beqDss_eq h4
        subst e1; subst e2; subst e3
        have e4 : zs.length < 1000000 := Nat.le_of_ble_eq_true h3
        exact vc_compactS L hcal ver zs (by omega)
      · cases he
    · cases he
  · cases he

end Go.Vt
namespace Go.Vt
open Go

def lkO : List (Nat × Orders) → Nat → Orders
  | [], _ => []
  | (g, x) :: r, f => match Nat.beq f g with
    | true => x
    | false => lkO r f

def tblOf (P : Program) (sgs : List (Nat × Orders)) : Tbl := fun f => match P.funcs[f]? with
  | some fn => match fn.body with
    | some c => if callable P f && codeOkR P fn.ntmps (lkO sgs f) c then some (fn.ntmps, compile (lkO sgs f) c, fn.results.toList) else none
    | none => none
  | none => none

theorem tblOf_ok {P : Program} {sgs : List (Nat × Orders)} : TblOk P (tblOf P sgs) := by
  intro f N vc rs h
  unfold tblOf at h
  split at h
  · rename_i fn hf
    split at h
    · rename_i c hb
      split at h
      · rename_i hc
        simp only [Bool.and_eq_true] at hc
        cases h
        exact ⟨fn, c, lkO sgs f, hf, hb, rfl, rfl, hc.1, hc.2, rfl⟩
      · cases h
    · cases h
  · cases h

def hdC : Code → Code
  | .seq a _ => a
  | c => c
def tlC : Code → Code
  | .seq _ b => b
  | c => c
def tlN : Nat → Code → Code
  | 0, c => c
  | k + 1, c => tlN k (tlC c)
def preC : Nat → Code → List Code
  | 0, _ => []
  | k + 1, c => hdC c :: preC k (tlC c)
def regOps : Code → List Oper
  | .region _ ops _ => ops.toList
  | _ => []
def regId : Code → Nat
  | .region id _ _ => id
  | _ => 0
def bodyOf (fn : Func) : Code := fn.body.getD .skip

noncomputable def dfOf (fn : Func) (k : Nat) (d : Tmp) (sg : Orders) : DF :=
  let b := bodyOf fn
  let ops := regOps (hdC (tlN k b))
  { N := fn.ntmps, pre := (preC k b).map (compile sg), ops := ops.dropLast.map (cop ops), slot := d, rest := compile sg (tlC (tlN k b)), rs := fn.results.toList }

theorem noEsc_tbl {P : Program} {l : List Nat} (h : ((List.range P.funcs.size).all fun f => noEsc P f == l.contains f) = true) (hl : (l.all fun f => decide (f < P.funcs.size)) = true) (f : Nat) : noEsc P f = l.contains f := by
  by_cases hf : f < P.funcs.size
  · have := List.all_eq_true.1 h f (List.mem_range.2 hf)
    exact eq_of_beq this
  · have h1 : noEsc P f = false := by
      unfold noEsc
      rw [Array.getElem?_eq_none (by omega)]
    rw [h1]
    cases hc : l.contains f with
    | false => rfl
    | true =>
      have := List.all_eq_true.1 hl f (by simpa using hc)
      simp at this
      omega

end Go.Vt
