/- Types and functions of this seat, at the level of values (printed). -/
import Derived.Test.YtdabfkmhkoppcaaGreatDoorProg
import Derived.Test.YtdabfkmhkoppcaaGreatDoorVtComp
set_option maxRecDepth 100000
namespace Go.Vt.Tryz
open Go.Proofs

theorem mixed : Tryz.prog.follows .mixedOrders = true := by kernel_rfl
theorem noescs (f : Nat) : noEsc Tryz.prog f = List.contains [288] f := noEsc_tbl (by kernel_rfl) (by kernel_rfl) f

theorem bt4 : bty Tryz.prog 4 = none := by kernel_rfl
theorem bt9 : bty Tryz.prog 9 = none := by kernel_rfl
theorem bt29 : bty Tryz.prog 29 = none := by kernel_rfl
theorem bt32 : bty Tryz.prog 32 = none := by kernel_rfl
theorem bt34 : bty Tryz.prog 34 = none := by kernel_rfl
theorem bt39 : bty Tryz.prog 39 = none := by kernel_rfl
theorem bt42 : bty Tryz.prog 42 = none := by kernel_rfl
theorem bt45 : bty Tryz.prog 45 = none := by kernel_rfl
theorem bt47 : bty Tryz.prog 47 = none := by kernel_rfl
theorem bt48 : bty Tryz.prog 48 = none := by kernel_rfl
theorem bt49 : bty Tryz.prog 49 = none := by kernel_rfl
theorem bt50 : bty Tryz.prog 50 = none := by kernel_rfl
theorem bt52 : bty Tryz.prog 52 = none := by kernel_rfl
theorem bt59 : bty Tryz.prog 59 = none := by kernel_rfl
theorem bt60 : bty Tryz.prog 60 = none := by kernel_rfl
theorem bt61 : bty Tryz.prog 61 = none := by kernel_rfl
theorem bt62 : bty Tryz.prog 62 = none := by kernel_rfl
theorem bt63 : bty Tryz.prog 63 = none := by kernel_rfl
theorem bt65 : bty Tryz.prog 65 = none := by kernel_rfl
theorem bt67 : bty Tryz.prog 67 = none := by kernel_rfl
theorem bt72 : bty Tryz.prog 72 = none := by kernel_rfl
theorem bt87 : bty Tryz.prog 87 = none := by kernel_rfl
theorem bt89 : bty Tryz.prog 89 = none := by kernel_rfl
theorem bt91 : bty Tryz.prog 91 = none := by kernel_rfl
theorem bt100 : bty Tryz.prog 100 = none := by kernel_rfl
theorem bt118 : bty Tryz.prog 118 = none := by kernel_rfl
theorem bt123 : bty Tryz.prog 123 = none := by kernel_rfl
theorem bt126 : bty Tryz.prog 126 = none := by kernel_rfl
theorem bt129 : bty Tryz.prog 129 = none := by kernel_rfl
theorem bt133 : bty Tryz.prog 133 = none := by kernel_rfl
theorem bt137 : bty Tryz.prog 137 = none := by kernel_rfl
theorem bt140 : bty Tryz.prog 140 = none := by kernel_rfl
theorem bt143 : bty Tryz.prog 143 = none := by kernel_rfl
theorem bt148 : bty Tryz.prog 148 = none := by kernel_rfl
theorem bt152 : bty Tryz.prog 152 = none := by kernel_rfl
theorem bt156 : bty Tryz.prog 156 = none := by kernel_rfl
theorem bt161 : bty Tryz.prog 161 = none := by kernel_rfl
theorem bt162 : bty Tryz.prog 162 = none := by kernel_rfl
theorem bt166 : bty Tryz.prog 166 = none := by kernel_rfl
theorem bt170 : bty Tryz.prog 170 = none := by kernel_rfl
theorem bt175 : bty Tryz.prog 175 = none := by kernel_rfl
theorem bt179 : bty Tryz.prog 179 = none := by kernel_rfl
theorem bt237 : bty Tryz.prog 237 = none := by kernel_rfl
theorem bt307 : bty Tryz.prog 307 = none := by kernel_rfl
theorem ti2 : ti Tryz.prog 2 = some (TI.mk 1 8 false (some (V.one (L.d (D.int IntKind.i64 (0))))) (TK.int IntKind.i64) [] none) := by kernel_rfl

theorem ti3 : ti Tryz.prog 3 = some (TI.mk 1 8 false (some (V.one (L.d (D.int IntKind.i64 (0))))) (TK.int IntKind.i64) [] none) := by kernel_rfl

theorem ti4 : ti Tryz.prog 4 = some (TI.mk 1 1 false (some (V.one (L.d (D.bool false)))) TK.bool [] none) := by kernel_rfl

theorem ti9 : ti Tryz.prog 9 = some (TI.mk 1 16 false (some (V.one (L.d (D.str (ByteArray.mk (Array.mk [])))))) TK.str [] none) := by kernel_rfl

theorem ti22 : ti Tryz.prog 22 = some (TI.mk 1 24 false (some (V.one L.nils)) TK.slice [] (some (EI.mk 12 176 (some (V.agg [L.d (D.str (ByteArray.mk (Array.mk []))), L.d (D.int
  IntKind.i64 (0)), L.d (D.int IntKind.i64 (0)), L.d (D.int IntKind.i64 (0)), L.nils, L.d (D.int IntKind.i64 (0)), L.d (D.int IntKind.i64 (0)), L.d (D.int IntKind.i64 (0)), L.d
  (D.str (ByteArray.mk (Array.mk []))), L.nils, L.nils, L.nils])) true))) := by kernel_rfl

theorem ti23 : ti Tryz.prog 23 = some (TI.mk 1 24 false (some (V.one L.nils)) TK.slice [] (some (EI.mk 21 336 (some (V.agg [L.d (D.str (ByteArray.mk (Array.mk []))), L.d (D.int
  IntKind.i64 (0)), L.d (D.int IntKind.i64 (0)), L.nils, L.nils, L.d (D.int IntKind.i64 (0)), L.nils, L.d (D.int IntKind.i64 (0)), L.d (D.int IntKind.i64 (0)), L.d (D.int
  IntKind.i64 (0)), L.d (D.str (ByteArray.mk (Array.mk []))), L.nils, L.nils, L.nils, L.d (D.int IntKind.i64 (0)), L.d (D.int IntKind.i64 (0)), L.d (D.int IntKind.i64 (0)), L.d
  (D.str (ByteArray.mk (Array.mk []))), L.nils, L.nils, L.nils])) true))) := by kernel_rfl

theorem ti24 : ti Tryz.prog 24 = some (TI.mk 1 24 false (some (V.one L.nils)) TK.slice [] (some (EI.mk 5 80 (some (V.agg [L.d (D.str (ByteArray.mk (Array.mk []))), L.d (D.int
  IntKind.i64 (0)), L.d (D.int IntKind.i64 (0)), L.nils, L.nils])) true))) := by kernel_rfl

theorem ti25 : ti Tryz.prog 25 = some (TI.mk 1 24 false (some (V.one L.nils)) TK.slice [] (some (EI.mk 13 248 (some (V.agg [L.d (D.str (ByteArray.mk (Array.mk []))), L.nils, L.nils,
  L.nils, L.nils, L.nils, L.d (D.int IntKind.i64 (0)), L.d (D.int IntKind.i64 (0)), L.d (D.int IntKind.i64 (0)), L.d (D.str (ByteArray.mk (Array.mk []))), L.nils, L.nils, L.nils]))
  true))) := by kernel_rfl

theorem ti26 : ti Tryz.prog 26 = some (TI.mk 1 24 false (some (V.one L.nils)) TK.slice [] (some (EI.mk 20 416 (some (V.agg [L.d (D.str (ByteArray.mk (Array.mk []))), L.nils, L.nils,
  L.nils, L.nils, L.nils, L.nils, L.nils, L.nils, L.nils, L.nils, L.nils, L.nils, L.d (D.int IntKind.i64 (0)), L.d (D.int IntKind.i64 (0)), L.d (D.int IntKind.i64 (0)), L.d (D.str
  (ByteArray.mk (Array.mk []))), L.nils, L.nils, L.nils])) true))) := by kernel_rfl

theorem ti27 : ti Tryz.prog 27 = some (TI.mk 1 24 false (some (V.one L.nils)) TK.slice [] (some (EI.mk 7 160 (some (V.agg [L.d (D.str (ByteArray.mk (Array.mk []))), L.nils, L.nils,
  L.nils, L.nils, L.nils, L.nils])) true))) := by kernel_rfl

theorem ti29 : ti Tryz.prog 29 = some (TI.mk 6 144 true (some (V.agg [L.nils, L.nils, L.nils, L.nils, L.nils, L.nils])) TK.struct [(0, 1, false), (1, 1, false), (2, 1, false), (3,
  1, false), (4, 1, false), (5, 1, false)] none) := by kernel_rfl

theorem ti30 : ti Tryz.prog 30 = some (TI.mk 1 24 false (some (V.one L.nils)) TK.slice [] (some (EI.mk 3 40 (some (V.agg [L.d (D.int IntKind.i64 (0)), L.d (D.int IntKind.i64 (0)),
  L.nils])) true))) := by kernel_rfl

theorem ti32 : ti Tryz.prog 32 = some (TI.mk 3 40 true (some (V.agg [L.d (D.int IntKind.i64 (0)), L.d (D.int IntKind.i64 (0)), L.nils])) TK.struct [(0, 1, false), (1, 1, false), (2,
  1, false)] none) := by kernel_rfl

theorem ti34 : ti Tryz.prog 34 = some (TI.mk 4 48 true (some (V.agg [L.d (D.int IntKind.i64 (0)), L.d (D.int IntKind.i64 (0)), L.d (D.int IntKind.i64 (0)), L.nils])) TK.struct [(0,
  1, false), (1, 3, true)] none) := by kernel_rfl

theorem ti35 : ti Tryz.prog 35 = some (TI.mk 1 24 false (some (V.one L.nils)) TK.slice [] (some (EI.mk 1 16 (some (V.one (L.d (D.str (ByteArray.mk (Array.mk [])))))) false))) := by
  kernel_rfl

theorem ti36 : ti Tryz.prog 36 = some (TI.mk 1 24 false (some (V.one L.nils)) TK.slice [] (some (EI.mk 4 64 (some (V.agg [L.d (D.int IntKind.i64 (0)), L.d (D.int IntKind.i64 (0)),
  L.nils, L.nils])) true))) := by kernel_rfl

theorem ti37 : ti Tryz.prog 37 = some (TI.mk 1 24 false (some (V.one L.nils)) TK.slice [] (some (EI.mk 7 112 (some (V.agg [L.d (D.int IntKind.i64 (0)), L.d (D.int IntKind.i64 (0)),
  L.d (D.int IntKind.i64 (0)), L.d (D.str (ByteArray.mk (Array.mk []))), L.nils, L.nils, L.nils])) true))) := by kernel_rfl

theorem ti39 : ti Tryz.prog 39 = some (TI.mk 7 112 true (some (V.agg [L.d (D.int IntKind.i64 (0)), L.d (D.int IntKind.i64 (0)), L.d (D.int IntKind.i64 (0)), L.d (D.str (ByteArray.mk
  (Array.mk []))), L.nils, L.nils, L.nils])) TK.struct [(0, 1, false), (1, 1, false), (2, 1, false), (3, 1, false), (4, 1, false), (5, 1, false), (6, 1, false)] none) := by
  kernel_rfl

theorem ti41 : ti Tryz.prog 41 = some (TI.mk 12 176 true (some (V.agg [L.d (D.str (ByteArray.mk (Array.mk []))), L.d (D.int IntKind.i64 (0)), L.d (D.int IntKind.i64 (0)), L.d (D.int
  IntKind.i64 (0)), L.nils, L.d (D.int IntKind.i64 (0)), L.d (D.int IntKind.i64 (0)), L.d (D.int IntKind.i64 (0)), L.d (D.str (ByteArray.mk (Array.mk []))), L.nils, L.nils,
  L.nils])) TK.struct [(0, 1, false), (1, 4, true), (5, 7, true)] none) := by kernel_rfl

theorem ti42 : ti Tryz.prog 42 = some (TI.mk 12 176 true (some (V.agg [L.d (D.str (ByteArray.mk (Array.mk []))), L.d (D.int IntKind.i64 (0)), L.d (D.int IntKind.i64 (0)), L.d (D.int
  IntKind.i64 (0)), L.nils, L.d (D.int IntKind.i64 (0)), L.d (D.int IntKind.i64 (0)), L.d (D.int IntKind.i64 (0)), L.d (D.str (ByteArray.mk (Array.mk []))), L.nils, L.nils,
  L.nils])) TK.struct [(0, 1, false), (1, 4, true), (5, 7, true)] none) := by kernel_rfl

theorem ti43 : ti Tryz.prog 43 = some (TI.mk 1 8 false (some (V.one (L.d (D.int IntKind.i64 (0))))) (TK.int IntKind.i64) [] none) := by kernel_rfl

theorem ti45 : ti Tryz.prog 45 = some (TI.mk 1 24 false (some (V.one L.nils)) TK.slice [] (some (EI.mk 12 176 (some (V.agg [L.d (D.str (ByteArray.mk (Array.mk []))), L.d (D.int
  IntKind.i64 (0)), L.d (D.int IntKind.i64 (0)), L.d (D.int IntKind.i64 (0)), L.nils, L.d (D.int IntKind.i64 (0)), L.d (D.int IntKind.i64 (0)), L.d (D.int IntKind.i64 (0)), L.d
  (D.str (ByteArray.mk (Array.mk []))), L.nils, L.nils, L.nils])) true))) := by kernel_rfl

theorem ti46 : ti Tryz.prog 46 = some (TI.mk 1 24 false (some (V.one L.nils)) TK.slice [] (some (EI.mk 21 336 (some (V.agg [L.d (D.str (ByteArray.mk (Array.mk []))), L.d (D.int
  IntKind.i64 (0)), L.d (D.int IntKind.i64 (0)), L.nils, L.nils, L.d (D.int IntKind.i64 (0)), L.nils, L.d (D.int IntKind.i64 (0)), L.d (D.int IntKind.i64 (0)), L.d (D.int
  IntKind.i64 (0)), L.d (D.str (ByteArray.mk (Array.mk []))), L.nils, L.nils, L.nils, L.d (D.int IntKind.i64 (0)), L.d (D.int IntKind.i64 (0)), L.d (D.int IntKind.i64 (0)), L.d
  (D.str (ByteArray.mk (Array.mk []))), L.nils, L.nils, L.nils])) true))) := by kernel_rfl

theorem ti47 : ti Tryz.prog 47 = some (TI.mk 1 24 false (some (V.one L.nils)) TK.slice [] (some (EI.mk 5 80 (some (V.agg [L.d (D.str (ByteArray.mk (Array.mk []))), L.d (D.int
  IntKind.i64 (0)), L.d (D.int IntKind.i64 (0)), L.nils, L.nils])) true))) := by kernel_rfl

theorem ti48 : ti Tryz.prog 48 = some (TI.mk 1 24 false (some (V.one L.nils)) TK.slice [] (some (EI.mk 13 248 (some (V.agg [L.d (D.str (ByteArray.mk (Array.mk []))), L.nils, L.nils,
  L.nils, L.nils, L.nils, L.d (D.int IntKind.i64 (0)), L.d (D.int IntKind.i64 (0)), L.d (D.int IntKind.i64 (0)), L.d (D.str (ByteArray.mk (Array.mk []))), L.nils, L.nils, L.nils]))
  true))) := by kernel_rfl

theorem ti49 : ti Tryz.prog 49 = some (TI.mk 1 24 false (some (V.one L.nils)) TK.slice [] (some (EI.mk 20 416 (some (V.agg [L.d (D.str (ByteArray.mk (Array.mk []))), L.nils, L.nils,
  L.nils, L.nils, L.nils, L.nils, L.nils, L.nils, L.nils, L.nils, L.nils, L.nils, L.d (D.int IntKind.i64 (0)), L.d (D.int IntKind.i64 (0)), L.d (D.int IntKind.i64 (0)), L.d (D.str
  (ByteArray.mk (Array.mk []))), L.nils, L.nils, L.nils])) true))) := by kernel_rfl

theorem ti50 : ti Tryz.prog 50 = some (TI.mk 1 24 false (some (V.one L.nils)) TK.slice [] (some (EI.mk 7 160 (some (V.agg [L.d (D.str (ByteArray.mk (Array.mk []))), L.nils, L.nils,
  L.nils, L.nils, L.nils, L.nils])) true))) := by kernel_rfl

theorem ti52 : ti Tryz.prog 52 = some (TI.mk 6 144 true (some (V.agg [L.nils, L.nils, L.nils, L.nils, L.nils, L.nils])) TK.struct [(0, 1, false), (1, 1, false), (2, 1, false), (3,
  1, false), (4, 1, false), (5, 1, false)] none) := by kernel_rfl

theorem ti59 : ti Tryz.prog 59 = some (TI.mk 1 24 false (some (V.one L.nils)) TK.slice [] (some (EI.mk 5 80 (some (V.agg [L.d (D.str (ByteArray.mk (Array.mk []))), L.d (D.int
  IntKind.i64 (0)), L.d (D.int IntKind.i64 (0)), L.nils, L.nils])) true))) := by kernel_rfl

theorem ti60 : ti Tryz.prog 60 = some (TI.mk 1 24 false (some (V.one L.nils)) TK.slice [] (some (EI.mk 5 64 (some (V.agg [L.d (D.str (ByteArray.mk (Array.mk []))), L.d (D.int
  IntKind.i64 (0)), L.d (D.int IntKind.i64 (0)), L.d (D.int IntKind.i64 (0)), L.nils])) true))) := by kernel_rfl

theorem ti61 : ti Tryz.prog 61 = some (TI.mk 1 24 false (some (V.one L.nils)) TK.slice [] (some (EI.mk 6 136 (some (V.agg [L.d (D.str (ByteArray.mk (Array.mk []))), L.nils, L.nils,
  L.nils, L.nils, L.nils])) true))) := by kernel_rfl

theorem ti62 : ti Tryz.prog 62 = some (TI.mk 1 24 false (some (V.one L.nils)) TK.slice [] (some (EI.mk 13 304 (some (V.agg [L.d (D.str (ByteArray.mk (Array.mk []))), L.nils, L.nils,
  L.nils, L.nils, L.nils, L.nils, L.nils, L.nils, L.nils, L.nils, L.nils, L.nils])) true))) := by kernel_rfl

theorem ti63 : ti Tryz.prog 63 = some (TI.mk 1 24 false (some (V.one L.nils)) TK.slice [] (some (EI.mk 7 160 (some (V.agg [L.d (D.str (ByteArray.mk (Array.mk []))), L.nils, L.nils,
  L.nils, L.nils, L.nils, L.nils])) true))) := by kernel_rfl

theorem ti65 : ti Tryz.prog 65 = some (TI.mk 5 120 true (some (V.agg [L.nils, L.nils, L.nils, L.nils, L.nils])) TK.struct [(0, 1, false), (1, 1, false), (2, 1, false), (3, 1,
  false), (4, 1, false)] none) := by kernel_rfl

theorem ti67 : ti Tryz.prog 67 = some (TI.mk 13 248 true (some (V.agg [L.d (D.str (ByteArray.mk (Array.mk []))), L.nils, L.nils, L.nils, L.nils, L.nils, L.d (D.int IntKind.i64 (0)),
  L.d (D.int IntKind.i64 (0)), L.d (D.int IntKind.i64 (0)), L.d (D.str (ByteArray.mk (Array.mk []))), L.nils, L.nils, L.nils])) TK.struct [(0, 1, false), (1, 5, true), (6, 7, true)]
  none) := by kernel_rfl

theorem ti70 : ti Tryz.prog 70 = some (TI.mk 1 24 false (some (V.one L.nils)) TK.slice [] (some (EI.mk 2 40 (some (V.agg [L.d (D.str (ByteArray.mk (Array.mk []))), L.nils])) true)))
  := by kernel_rfl

theorem ti72 : ti Tryz.prog 72 = some (TI.mk 5 80 true (some (V.agg [L.d (D.str (ByteArray.mk (Array.mk []))), L.d (D.int IntKind.i64 (0)), L.d (D.int IntKind.i64 (0)), L.nils,
  L.nils])) TK.struct [(0, 1, false), (1, 3, true), (4, 1, false)] none) := by kernel_rfl

theorem ti78 : ti Tryz.prog 78 = some (TI.mk 5 80 true (some (V.agg [L.d (D.str (ByteArray.mk (Array.mk []))), L.d (D.int IntKind.i64 (0)), L.d (D.int IntKind.i64 (0)), L.nils,
  L.nils])) TK.struct [(0, 1, false), (1, 3, true), (4, 1, false)] none) := by kernel_rfl

theorem ti81 : ti Tryz.prog 81 = some (TI.mk 13 248 true (some (V.agg [L.d (D.str (ByteArray.mk (Array.mk []))), L.nils, L.nils, L.nils, L.nils, L.nils, L.d (D.int IntKind.i64 (0)),
  L.d (D.int IntKind.i64 (0)), L.d (D.int IntKind.i64 (0)), L.d (D.str (ByteArray.mk (Array.mk []))), L.nils, L.nils, L.nils])) TK.struct [(0, 1, false), (1, 5, true), (6, 7, true)]
  none) := by kernel_rfl

theorem ti85 : ti Tryz.prog 85 = some (TI.mk 1 24 false (some (V.one L.nils)) TK.slice [] (some (EI.mk 1 8 (some (V.one (L.d (D.int IntKind.i64 (0))))) false))) := by kernel_rfl

theorem ti87 : ti Tryz.prog 87 = some (TI.mk 6 144 true (some (V.agg [L.nils, L.nils, L.nils, L.nils, L.nils, L.nils])) TK.struct [(0, 1, false), (1, 5, true)] none) := by
  kernel_rfl

theorem ti89 : ti Tryz.prog 89 = some (TI.mk 12 288 true (some (V.agg [L.nils, L.nils, L.nils, L.nils, L.nils, L.nils, L.nils, L.nils, L.nils, L.nils, L.nils, L.nils])) TK.struct
  [(0, 1, false), (1, 5, true), (6, 6, true)] none) := by kernel_rfl

theorem ti91 : ti Tryz.prog 91 = some (TI.mk 20 416 true (some (V.agg [L.d (D.str (ByteArray.mk (Array.mk []))), L.nils, L.nils, L.nils, L.nils, L.nils, L.nils, L.nils, L.nils,
  L.nils, L.nils, L.nils, L.nils, L.d (D.int IntKind.i64 (0)), L.d (D.int IntKind.i64 (0)), L.d (D.int IntKind.i64 (0)), L.d (D.str (ByteArray.mk (Array.mk []))), L.nils, L.nils,
  L.nils])) TK.struct [(0, 1, false), (1, 12, true), (13, 7, true)] none) := by kernel_rfl

theorem ti94 : ti Tryz.prog 94 = some (TI.mk 20 416 true (some (V.agg [L.d (D.str (ByteArray.mk (Array.mk []))), L.nils, L.nils, L.nils, L.nils, L.nils, L.nils, L.nils, L.nils,
  L.nils, L.nils, L.nils, L.nils, L.d (D.int IntKind.i64 (0)), L.d (D.int IntKind.i64 (0)), L.d (D.int IntKind.i64 (0)), L.d (D.str (ByteArray.mk (Array.mk []))), L.nils, L.nils,
  L.nils])) TK.struct [(0, 1, false), (1, 12, true), (13, 7, true)] none) := by kernel_rfl

theorem ti100 : ti Tryz.prog 100 = some (TI.mk 7 160 true (some (V.agg [L.d (D.str (ByteArray.mk (Array.mk []))), L.nils, L.nils, L.nils, L.nils, L.nils, L.nils])) TK.struct [(0, 1,
  false), (1, 6, true)] none) := by kernel_rfl

theorem ti103 : ti Tryz.prog 103 = some (TI.mk 7 160 true (some (V.agg [L.d (D.str (ByteArray.mk (Array.mk []))), L.nils, L.nils, L.nils, L.nils, L.nils, L.nils])) TK.struct [(0, 1,
  false), (1, 6, true)] none) := by kernel_rfl

theorem ti118 : ti Tryz.prog 118 = some (TI.mk 21 336 true (some (V.agg [L.d (D.str (ByteArray.mk (Array.mk []))), L.d (D.int IntKind.i64 (0)), L.d (D.int IntKind.i64 (0)), L.nils,
  L.nils, L.d (D.int IntKind.i64 (0)), L.nils, L.d (D.int IntKind.i64 (0)), L.d (D.int IntKind.i64 (0)), L.d (D.int IntKind.i64 (0)), L.d (D.str (ByteArray.mk (Array.mk []))),
  L.nils, L.nils, L.nils, L.d (D.int IntKind.i64 (0)), L.d (D.int IntKind.i64 (0)), L.d (D.int IntKind.i64 (0)), L.d (D.str (ByteArray.mk (Array.mk []))), L.nils, L.nils, L.nils]))
  TK.struct [(0, 1, false), (1, 3, true), (4, 1, false), (5, 1, false), (6, 1, false), (7, 7, true), (14, 7, true)] none) := by kernel_rfl

theorem ti119 : ti Tryz.prog 119 = some (TI.mk 21 336 true (some (V.agg [L.d (D.str (ByteArray.mk (Array.mk []))), L.d (D.int IntKind.i64 (0)), L.d (D.int IntKind.i64 (0)), L.nils,
  L.nils, L.d (D.int IntKind.i64 (0)), L.nils, L.d (D.int IntKind.i64 (0)), L.d (D.int IntKind.i64 (0)), L.d (D.int IntKind.i64 (0)), L.d (D.str (ByteArray.mk (Array.mk []))),
  L.nils, L.nils, L.nils, L.d (D.int IntKind.i64 (0)), L.d (D.int IntKind.i64 (0)), L.d (D.int IntKind.i64 (0)), L.d (D.str (ByteArray.mk (Array.mk []))), L.nils, L.nils, L.nils]))
  TK.struct [(0, 1, false), (1, 3, true), (4, 1, false), (5, 1, false), (6, 1, false), (7, 7, true), (14, 7, true)] none) := by kernel_rfl

theorem ti123 : ti Tryz.prog 123 = some (TI.mk 1 8 false (some (V.one L.nilf)) TK.func [] none) := by kernel_rfl

theorem ti126 : ti Tryz.prog 126 = some (TI.mk 5 64 true (some (V.agg [L.d (D.str (ByteArray.mk (Array.mk []))), L.d (D.int IntKind.i64 (0)), L.d (D.int IntKind.i64 (0)), L.d (D.int
  IntKind.i64 (0)), L.nils])) TK.struct [(0, 1, false), (1, 4, true)] none) := by kernel_rfl

theorem ti129 : ti Tryz.prog 129 = some (TI.mk 1 8 false (some (V.one L.nilf)) TK.func [] none) := by kernel_rfl

theorem ti133 : ti Tryz.prog 133 = some (TI.mk 5 80 true (some (V.agg [L.d (D.str (ByteArray.mk (Array.mk []))), L.d (D.int IntKind.i64 (0)), L.d (D.int IntKind.i64 (0)), L.nils,
  L.nils])) TK.struct [(0, 1, false), (1, 3, true), (4, 1, false)] none) := by kernel_rfl

theorem ti137 : ti Tryz.prog 137 = some (TI.mk 1 8 false (some (V.one L.nilf)) TK.func [] none) := by kernel_rfl

theorem ti140 : ti Tryz.prog 140 = some (TI.mk 6 136 true (some (V.agg [L.d (D.str (ByteArray.mk (Array.mk []))), L.nils, L.nils, L.nils, L.nils, L.nils])) TK.struct [(0, 1, false),
  (1, 5, true)] none) := by kernel_rfl

theorem ti143 : ti Tryz.prog 143 = some (TI.mk 1 8 false (some (V.one L.nilf)) TK.func [] none) := by kernel_rfl

theorem ti148 : ti Tryz.prog 148 = some (TI.mk 1 8 false (some (V.one L.nilf)) TK.func [] none) := by kernel_rfl

theorem ti152 : ti Tryz.prog 152 = some (TI.mk 1 8 false (some (V.one L.nilf)) TK.func [] none) := by kernel_rfl

theorem ti156 : ti Tryz.prog 156 = some (TI.mk 2 40 true (some (V.agg [L.d (D.str (ByteArray.mk (Array.mk []))), L.nils])) TK.struct [(0, 1, false), (1, 1, false)] none) := by
  kernel_rfl

theorem ti161 : ti Tryz.prog 161 = some (TI.mk 13 304 true (some (V.agg [L.d (D.str (ByteArray.mk (Array.mk []))), L.nils, L.nils, L.nils, L.nils, L.nils, L.nils, L.nils, L.nils,
  L.nils, L.nils, L.nils, L.nils])) TK.struct [(0, 1, false), (1, 12, true)] none) := by kernel_rfl

theorem ti162 : ti Tryz.prog 162 = some (TI.mk 7 160 true (some (V.agg [L.d (D.str (ByteArray.mk (Array.mk []))), L.nils, L.nils, L.nils, L.nils, L.nils, L.nils])) TK.struct [(0, 1,
  false), (1, 6, true)] none) := by kernel_rfl

theorem ti166 : ti Tryz.prog 166 = some (TI.mk 1 8 false (some (V.one L.nilf)) TK.func [] none) := by kernel_rfl

theorem ti170 : ti Tryz.prog 170 = some (TI.mk 1 8 false (some (V.one L.nilf)) TK.func [] none) := by kernel_rfl

theorem ti175 : ti Tryz.prog 175 = some (TI.mk 1 8 false (some (V.one L.nilf)) TK.func [] none) := by kernel_rfl

theorem ti179 : ti Tryz.prog 179 = some (TI.mk 1 8 false (some (V.one L.nilf)) TK.func [] none) := by kernel_rfl

theorem ti237 : ti Tryz.prog 237 = some (TI.mk 2 48 true (some (V.agg [L.nils, L.nils])) TK.struct [(0, 1, false), (1, 1, false)] none) := by kernel_rfl

theorem ti307 : ti Tryz.prog 307 = some (TI.mk 4 64 true (some (V.agg [L.d (D.int IntKind.i64 (0)), L.d (D.int IntKind.i64 (0)), L.nils, L.nils])) TK.struct [(0, 1, false), (1, 1,
  false), (2, 1, false), (3, 1, false)] none) := by kernel_rfl

/-- wafer/waferlaw13.Own -/
def vc9 : VCode := (VCode.ops [VOp.mk (some 1) (.box 29 (.tmp 0)) none, VOp.mk (some 2) (.alloc 52) none]).seq ((VCode.ops [VOp.mk (some 3) (.alloc 52) none]).seq (((VCode.ops
  [VOp.mk (some 4) (.assign (.const (.int .i64 0))) none]).seq (VCode.block 0 (((VCode.ops [VOp.mk (some 11) (.move (.tmp 4)) none, VOp.mk (some 12) (.fieldAddr 29 (.tmp 1) 0) none,
  VOp.mk (some 13) (.load 22 (.tmp 12)) none, VOp.mk (some 14) (.call (.mk (.builtin .len) #[.tmp 13] #[22])) none, VOp.mk (some 15) (.binOp .lss 3 (.tmp 11) (.tmp 14) 3) none]).seq
  (VCode.cond (.tmp 15) VCode.skip (VCode.exit 0))).seq ((VCode.block 1 (VCode.opsW [(0, VOp.mk (some 18) (.fieldAddr 52 (.tmp 3) 0) none), (1, VOp.mk (some 19) (.load 45 (.tmp 18))
  none), (2, VOp.mk (some 20) (.fieldAddr 29 (.tmp 1) 0) none), (3, VOp.mk (some 21) (.load 22 (.tmp 20)) none), (4, VOp.mk (some 22) (.move (.tmp 4)) none), (5, VOp.mk (some 23)
  (.indexAddr 22 (.tmp 21) (.tmp 22)) none), (6, VOp.mk (some 24) (.fieldAddr 41 (.tmp 23) 0) none), (7, VOp.mk (some 25) (.load 9 (.tmp 24)) none), (8, VOp.mk (some 26) (.fieldAddr
  29 (.tmp 1) 0) none), (9, VOp.mk (some 27) (.load 22 (.tmp 26)) none), (10, VOp.mk (some 28) (.move (.tmp 4)) none), (11, VOp.mk (some 29) (.indexAddr 22 (.tmp 27) (.tmp 28))
  none), (12, VOp.mk (some 30) (.fieldAddr 41 (.tmp 29) 1) none), (13, VOp.mk (some 31) (.load 34 (.tmp 30)) none), (14, VOp.mk (some 32) (.fieldAddr 29 (.tmp 1) 0) none), (15,
  VOp.mk (some 33) (.load 22 (.tmp 32)) none), (16, VOp.mk (some 34) (.move (.tmp 4)) none), (17, VOp.mk (some 35) (.indexAddr 22 (.tmp 33) (.tmp 34)) none), (18, VOp.mk (some 36)
  (.fieldAddr 41 (.tmp 35) 2) none), (19, VOp.mk (some 37) (.load 39 (.tmp 36)) none), (20, VOp.mk (some 38) (.build 42 #[(0, .tmp 25), (1, .tmp 31), (2, .tmp 37)]) none), (21,
  VOp.mk (some 39) (.buildSlice 45 1 #[(0, .tmp 38)]) none), (22, VOp.mk (some 40) (.call (.mk (.builtin .append) #[.tmp 19, .tmp 39] #[45, 45])) none), (23, VOp.mk (some 41)
  (.fieldAddr 52 (.tmp 3) 0) none), (24, VOp.mk none (.store 45 (.tmp 41) (.tmp 40)) none)] [(21, [0, 1])])).seq (VCode.ops [VOp.mk (some 16) (.move (.tmp 4)) none, VOp.mk (some 17)
  (.binOp .add 3 (.tmp 16) (.const (.int .i64 1)) 3) none, VOp.mk (some 4) (.assign (.tmp 17)) none]))).loop)).seq (((VCode.ops [VOp.mk (some 5) (.assign (.const (.int .i64 0)))
  none]).seq (VCode.block 2 (((VCode.ops [VOp.mk (some 42) (.move (.tmp 5)) none, VOp.mk (some 43) (.fieldAddr 29 (.tmp 1) 1) none, VOp.mk (some 44) (.load 23 (.tmp 43)) none,
  VOp.mk (some 45) (.call (.mk (.builtin .len) #[.tmp 44] #[23])) none, VOp.mk (some 46) (.binOp .lss 3 (.tmp 42) (.tmp 45) 3) none]).seq (VCode.cond (.tmp 46) VCode.skip
  (VCode.exit 2))).seq ((VCode.block 3 ((VCode.ops [VOp.mk (some 49) (.fieldAddr 29 (.tmp 1) 1) none, VOp.mk (some 50) (.load 23 (.tmp 49)) none, VOp.mk (some 51) (.move (.tmp 5))
  none, VOp.mk (some 52) (.indexAddr 23 (.tmp 50) (.tmp 51)) none, VOp.mk (some 53) (.load 118 (.tmp 52)) none, VOp.mk (some 6) (.alloc 118) none, VOp.mk none (.store 118 (.tmp 6)
  (.tmp 53)) none]).seq (VCode.ops [VOp.mk (some 54) (.fieldAddr 52 (.tmp 3) 1) none, VOp.mk (some 55) (.load 46 (.tmp 54)) none, VOp.mk (some 56) (.fieldAddr 118 (.tmp 6) 0) none,
  VOp.mk (some 57) (.load 9 (.tmp 56)) none, VOp.mk (some 58) (.fieldAddr 118 (.tmp 6) 1) none, VOp.mk (some 59) (.load 32 (.tmp 58)) none, VOp.mk (some 60) (.fieldAddr 118 (.tmp 6)
  2) none, VOp.mk (some 61) (.load 30 (.tmp 60)) none, VOp.mk (some 62) (.fieldAddr 118 (.tmp 6) 3) none, VOp.mk (some 63) (.load 3 (.tmp 62)) none, VOp.mk (some 64) (.fieldAddr 118
  (.tmp 6) 4) none, VOp.mk (some 65) (.load 70 (.tmp 64)) none, VOp.mk (some 66) (.fieldAddr 118 (.tmp 6) 5) none, VOp.mk (some 67) (.load 39 (.tmp 66)) none, VOp.mk (some 68)
  (.fieldAddr 118 (.tmp 6) 6) none, VOp.mk (some 69) (.load 39 (.tmp 68)) none, VOp.mk (some 70) (.build 119 #[(0, .tmp 57), (1, .tmp 59), (2, .tmp 61), (3, .tmp 63), (4, .tmp 65),
  (5, .tmp 67), (6, .tmp 69)]) none, VOp.mk (some 71) (.buildSlice 46 1 #[(0, .tmp 70)]) none, VOp.mk (some 72) (.call (.mk (.builtin .append) #[.tmp 55, .tmp 71] #[46, 46])) none,
  VOp.mk (some 73) (.fieldAddr 52 (.tmp 3) 1) none, VOp.mk none (.store 46 (.tmp 73) (.tmp 72)) none]))).seq (VCode.ops [VOp.mk (some 47) (.move (.tmp 5)) none, VOp.mk (some 48)
  (.binOp .add 3 (.tmp 47) (.const (.int .i64 1)) 3) none, VOp.mk (some 5) (.assign (.tmp 48)) none]))).loop)).seq (((VCode.ops [VOp.mk (some 7) (.assign (.const (.int .i64 0)))
  none]).seq (VCode.block 4 (((VCode.ops [VOp.mk (some 74) (.move (.tmp 7)) none, VOp.mk (some 75) (.fieldAddr 29 (.tmp 1) 2) none, VOp.mk (some 76) (.load 24 (.tmp 75)) none,
  VOp.mk (some 77) (.call (.mk (.builtin .len) #[.tmp 76] #[24])) none, VOp.mk (some 78) (.binOp .lss 3 (.tmp 74) (.tmp 77) 3) none]).seq (VCode.cond (.tmp 78) VCode.skip
  (VCode.exit 4))).seq ((VCode.block 5 (VCode.opsW [(0, VOp.mk (some 81) (.fieldAddr 52 (.tmp 3) 2) none), (1, VOp.mk (some 82) (.load 47 (.tmp 81)) none), (2, VOp.mk (some 83)
  (.fieldAddr 29 (.tmp 1) 2) none), (3, VOp.mk (some 84) (.load 24 (.tmp 83)) none), (4, VOp.mk (some 85) (.move (.tmp 7)) none), (5, VOp.mk (some 86) (.indexAddr 24 (.tmp 84) (.tmp
  85)) none), (6, VOp.mk (some 87) (.fieldAddr 78 (.tmp 86) 0) none), (7, VOp.mk (some 88) (.load 9 (.tmp 87)) none), (8, VOp.mk (some 89) (.fieldAddr 29 (.tmp 1) 2) none), (9,
  VOp.mk (some 90) (.load 24 (.tmp 89)) none), (10, VOp.mk (some 91) (.move (.tmp 7)) none), (11, VOp.mk (some 92) (.indexAddr 24 (.tmp 90) (.tmp 91)) none), (12, VOp.mk (some 93)
  (.fieldAddr 78 (.tmp 92) 1) none), (13, VOp.mk (some 94) (.load 32 (.tmp 93)) none), (14, VOp.mk (some 95) (.fieldAddr 29 (.tmp 1) 2) none), (15, VOp.mk (some 96) (.load 24 (.tmp
  95)) none), (16, VOp.mk (some 97) (.move (.tmp 7)) none), (17, VOp.mk (some 98) (.indexAddr 24 (.tmp 96) (.tmp 97)) none), (18, VOp.mk (some 99) (.fieldAddr 78 (.tmp 98) 2) none),
  (19, VOp.mk (some 100) (.load 70 (.tmp 99)) none), (20, VOp.mk (some 101) (.build 72 #[(0, .tmp 88), (1, .tmp 94), (2, .tmp 100)]) none), (21, VOp.mk (some 102) (.buildSlice 47 1
  #[(0, .tmp 101)]) none), (22, VOp.mk (some 103) (.call (.mk (.builtin .append) #[.tmp 82, .tmp 102] #[47, 47])) none), (23, VOp.mk (some 104) (.fieldAddr 52 (.tmp 3) 2) none),
  (24, VOp.mk none (.store 47 (.tmp 104) (.tmp 103)) none)] [(21, [0, 1])])).seq (VCode.ops [VOp.mk (some 79) (.move (.tmp 7)) none, VOp.mk (some 80) (.binOp .add 3 (.tmp 79)
  (.const (.int .i64 1)) 3) none, VOp.mk (some 7) (.assign (.tmp 80)) none]))).loop)).seq (((VCode.ops [VOp.mk (some 8) (.assign (.const (.int .i64 0))) none]).seq (VCode.block 6
  (((VCode.ops [VOp.mk (some 105) (.move (.tmp 8)) none, VOp.mk (some 106) (.fieldAddr 29 (.tmp 1) 3) none, VOp.mk (some 107) (.load 25 (.tmp 106)) none, VOp.mk (some 108) (.call
  (.mk (.builtin .len) #[.tmp 107] #[25])) none, VOp.mk (some 109) (.binOp .lss 3 (.tmp 105) (.tmp 108) 3) none]).seq (VCode.cond (.tmp 109) VCode.skip (VCode.exit 6))).seq
  ((VCode.block 7 (VCode.opsW [(0, VOp.mk (some 112) (.fieldAddr 52 (.tmp 3) 3) none), (1, VOp.mk (some 113) (.load 48 (.tmp 112)) none), (2, VOp.mk (some 114) (.fieldAddr 29 (.tmp
  1) 3) none), (3, VOp.mk (some 115) (.load 25 (.tmp 114)) none), (4, VOp.mk (some 116) (.move (.tmp 8)) none), (5, VOp.mk (some 117) (.indexAddr 25 (.tmp 115) (.tmp 116)) none),
  (6, VOp.mk (some 118) (.fieldAddr 81 (.tmp 117) 0) none), (7, VOp.mk (some 119) (.load 9 (.tmp 118)) none), (8, VOp.mk (some 120) (.fieldAddr 29 (.tmp 1) 3) none), (9, VOp.mk
  (some 121) (.load 25 (.tmp 120)) none), (10, VOp.mk (some 122) (.move (.tmp 8)) none), (11, VOp.mk (some 123) (.indexAddr 25 (.tmp 121) (.tmp 122)) none), (12, VOp.mk (some 124)
  (.fieldAddr 81 (.tmp 123) 1) none), (13, VOp.mk (some 125) (.load 65 (.tmp 124)) none), (14, VOp.mk (some 126) (.fieldAddr 29 (.tmp 1) 3) none), (15, VOp.mk (some 127) (.load 25
  (.tmp 126)) none), (16, VOp.mk (some 128) (.move (.tmp 8)) none), (17, VOp.mk (some 129) (.indexAddr 25 (.tmp 127) (.tmp 128)) none), (18, VOp.mk (some 130) (.fieldAddr 81 (.tmp
  129) 2) none), (19, VOp.mk (some 131) (.load 39 (.tmp 130)) none), (20, VOp.mk (some 132) (.build 67 #[(0, .tmp 119), (1, .tmp 125), (2, .tmp 131)]) none), (21, VOp.mk (some 133)
  (.buildSlice 48 1 #[(0, .tmp 132)]) none), (22, VOp.mk (some 134) (.call (.mk (.builtin .append) #[.tmp 113, .tmp 133] #[48, 48])) none), (23, VOp.mk (some 135) (.fieldAddr 52
  (.tmp 3) 3) none), (24, VOp.mk none (.store 48 (.tmp 135) (.tmp 134)) none)] [(21, [0, 1])])).seq (VCode.ops [VOp.mk (some 110) (.move (.tmp 8)) none, VOp.mk (some 111) (.binOp
  .add 3 (.tmp 110) (.const (.int .i64 1)) 3) none, VOp.mk (some 8) (.assign (.tmp 111)) none]))).loop)).seq (((VCode.ops [VOp.mk (some 9) (.assign (.const (.int .i64 0)))
  none]).seq (VCode.block 8 (((VCode.ops [VOp.mk (some 136) (.move (.tmp 9)) none, VOp.mk (some 137) (.fieldAddr 29 (.tmp 1) 4) none, VOp.mk (some 138) (.load 26 (.tmp 137)) none,
  VOp.mk (some 139) (.call (.mk (.builtin .len) #[.tmp 138] #[26])) none, VOp.mk (some 140) (.binOp .lss 3 (.tmp 136) (.tmp 139) 3) none]).seq (VCode.cond (.tmp 140) VCode.skip
  (VCode.exit 8))).seq ((VCode.block 9 (VCode.opsW [(0, VOp.mk (some 143) (.fieldAddr 52 (.tmp 3) 4) none), (1, VOp.mk (some 144) (.load 49 (.tmp 143)) none), (2, VOp.mk (some 145)
  (.fieldAddr 29 (.tmp 1) 4) none), (3, VOp.mk (some 146) (.load 26 (.tmp 145)) none), (4, VOp.mk (some 147) (.move (.tmp 9)) none), (5, VOp.mk (some 148) (.indexAddr 26 (.tmp 146)
  (.tmp 147)) none), (6, VOp.mk (some 149) (.fieldAddr 94 (.tmp 148) 0) none), (7, VOp.mk (some 150) (.load 9 (.tmp 149)) none), (8, VOp.mk (some 151) (.fieldAddr 29 (.tmp 1) 4)
  none), (9, VOp.mk (some 152) (.load 26 (.tmp 151)) none), (10, VOp.mk (some 153) (.move (.tmp 9)) none), (11, VOp.mk (some 154) (.indexAddr 26 (.tmp 152) (.tmp 153)) none), (12,
  VOp.mk (some 155) (.fieldAddr 94 (.tmp 154) 1) none), (13, VOp.mk (some 156) (.load 89 (.tmp 155)) none), (14, VOp.mk (some 157) (.fieldAddr 29 (.tmp 1) 4) none), (15, VOp.mk
  (some 158) (.load 26 (.tmp 157)) none), (16, VOp.mk (some 159) (.move (.tmp 9)) none), (17, VOp.mk (some 160) (.indexAddr 26 (.tmp 158) (.tmp 159)) none), (18, VOp.mk (some 161)
  (.fieldAddr 94 (.tmp 160) 2) none), (19, VOp.mk (some 162) (.load 39 (.tmp 161)) none), (20, VOp.mk (some 163) (.build 91 #[(0, .tmp 150), (1, .tmp 156), (2, .tmp 162)]) none),
  (21, VOp.mk (some 164) (.buildSlice 49 1 #[(0, .tmp 163)]) none), (22, VOp.mk (some 165) (.call (.mk (.builtin .append) #[.tmp 144, .tmp 164] #[49, 49])) none), (23, VOp.mk (some
  166) (.fieldAddr 52 (.tmp 3) 4) none), (24, VOp.mk none (.store 49 (.tmp 166) (.tmp 165)) none)] [(21, [0, 1])])).seq (VCode.ops [VOp.mk (some 141) (.move (.tmp 9)) none, VOp.mk
  (some 142) (.binOp .add 3 (.tmp 141) (.const (.int .i64 1)) 3) none, VOp.mk (some 9) (.assign (.tmp 142)) none]))).loop)).seq (((VCode.ops [VOp.mk (some 10) (.assign (.const (.int
  .i64 0))) none]).seq (VCode.block 10 (((VCode.ops [VOp.mk (some 167) (.move (.tmp 10)) none, VOp.mk (some 168) (.fieldAddr 29 (.tmp 1) 5) none, VOp.mk (some 169) (.load 27 (.tmp
  168)) none, VOp.mk (some 170) (.call (.mk (.builtin .len) #[.tmp 169] #[27])) none, VOp.mk (some 171) (.binOp .lss 3 (.tmp 167) (.tmp 170) 3) none]).seq (VCode.cond (.tmp 171)
  VCode.skip (VCode.exit 10))).seq ((VCode.block 11 (VCode.opsW [(0, VOp.mk (some 174) (.fieldAddr 52 (.tmp 3) 5) none), (1, VOp.mk (some 175) (.load 50 (.tmp 174)) none), (2,
  VOp.mk (some 176) (.fieldAddr 29 (.tmp 1) 5) none), (3, VOp.mk (some 177) (.load 27 (.tmp 176)) none), (4, VOp.mk (some 178) (.move (.tmp 10)) none), (5, VOp.mk (some 179)
  (.indexAddr 27 (.tmp 177) (.tmp 178)) none), (6, VOp.mk (some 180) (.fieldAddr 103 (.tmp 179) 0) none), (7, VOp.mk (some 181) (.load 9 (.tmp 180)) none), (8, VOp.mk (some 182)
  (.fieldAddr 29 (.tmp 1) 5) none), (9, VOp.mk (some 183) (.load 27 (.tmp 182)) none), (10, VOp.mk (some 184) (.move (.tmp 10)) none), (11, VOp.mk (some 185) (.indexAddr 27 (.tmp
  183) (.tmp 184)) none), (12, VOp.mk (some 186) (.fieldAddr 103 (.tmp 185) 1) none), (13, VOp.mk (some 187) (.load 87 (.tmp 186)) none), (14, VOp.mk (some 188) (.build 100 #[(0,
  .tmp 181), (1, .tmp 187)]) none), (15, VOp.mk (some 189) (.buildSlice 50 1 #[(0, .tmp 188)]) none), (16, VOp.mk (some 190) (.call (.mk (.builtin .append) #[.tmp 175, .tmp 189]
  #[50, 50])) none), (17, VOp.mk (some 191) (.fieldAddr 52 (.tmp 3) 5) none), (18, VOp.mk none (.store 50 (.tmp 191) (.tmp 190)) none)] [(15, [0, 1])])).seq (VCode.ops [VOp.mk (some
  172) (.move (.tmp 10)) none, VOp.mk (some 173) (.binOp .add 3 (.tmp 172) (.const (.int .i64 1)) 3) none, VOp.mk (some 10) (.assign (.tmp 173)) none]))).loop)).seq ((VCode.ops
  [VOp.mk (some 192) (.load 52 (.tmp 3)) none, VOp.mk none (.store 52 (.tmp 2) (.tmp 192)) none]).seq VCode.ret))))))))
theorem fn9 : FnOk Tryz.prog 9 193 vc9 [ResultVar.cell 2 52] := ⟨Tryz.f9, _, [(5, [([0, 1, 2, 3, 4, 5, 6, 7, 8, 9, 10, 11, 12, 13, 14, 15, 16, 17, 18, 19, 20, 21, 22, 23, 24], [(21,
  [0, 1])])]), (14, [([0, 1, 2, 3, 4, 5, 6, 7, 8, 9, 10, 11, 12, 13, 14, 15, 16, 17, 18, 19, 20, 21, 22, 23, 24], [(21, [0, 1])])]), (18, [([0, 1, 2, 3, 4, 5, 6, 7, 8, 9, 10, 11,
  12, 13, 14, 15, 16, 17, 18, 19, 20, 21, 22, 23, 24], [(21, [0, 1])])]), (22, [([0, 1, 2, 3, 4, 5, 6, 7, 8, 9, 10, 11, 12, 13, 14, 15, 16, 17, 18, 19, 20, 21, 22, 23, 24], [(21,
  [0, 1])])]), (26, [([0, 1, 2, 3, 4, 5, 6, 7, 8, 9, 10, 11, 12, 13, 14, 15, 16, 17, 18], [(15, [0, 1])])])], Tryz.func9, rfl, rfl, rfl, by kernel_rfl, by kernel_rfl, by kernel_rfl⟩

/-- (wafer/env.Env).Val -/
def vc10 : VCode := (VCode.ops [VOp.mk (some 2) (.box 52 (.tmp 0)) none, VOp.mk (some 4) (.alloc 42) none, VOp.mk (some 5) (.assign (.const (.int .i64 0))) none]).seq ((VCode.ops
  [VOp.mk (some 6) (.load 52 (.tmp 2)) none, VOp.mk (some 7) (.move (.tmp 1)) none, VOp.mk (some 8) (.makeFunc (.func 38) #[] #[.tmp 2]) none, VOp.mk (some 9) (.call (.mk (.value
  (.func 37)) #[.tmp 6, .tmp 7, .tmp 8, .func 41] #[52, 35, 124, 131])) none, VOp.mk (some 10) (.extract (.tmp 9) 0) none, VOp.mk (some 11) (.extract (.tmp 9) 1) none, VOp.mk none
  (.store 42 (.tmp 4) (.tmp 10)) none, VOp.mk (some 5) (.assign (.tmp 11)) none]).seq VCode.ret)
theorem fn10 : FnOk Tryz.prog 10 12 vc10 [ResultVar.cell 4 42, ResultVar.tmp 5] := ⟨Tryz.f10, _, [], Tryz.func10, rfl, rfl, rfl, by kernel_rfl, by kernel_rfl, by kernel_rfl⟩

/-- wafer/waferref08.SameScheme -/
def vc11 : VCode := (VCode.ops [VOp.mk (some 2) (.box 34 (.tmp 0)) none, VOp.mk (some 3) (.box 34 (.tmp 1)) none, VOp.mk (some 4) (.assign (.const (.bool false))) none]).seq
  ((VCode.ops [VOp.mk (some 5) (.fieldAddr 34 (.tmp 2) 0) none, VOp.mk (some 6) (.load 3 (.tmp 5)) none, VOp.mk (some 7) (.fieldAddr 34 (.tmp 3) 0) none, VOp.mk (some 8) (.load 3
  (.tmp 7)) none, VOp.mk (some 9) (.binOp .eql 3 (.tmp 6) (.tmp 8) 3) none, VOp.mk (some 10) (.move (.tmp 9)) none, VOp.mk (some 11) (.fieldAddr 34 (.tmp 2) 1) (some (some 10,
  true)), VOp.mk (some 12) (.load 32 (.tmp 11)) (some (some 10, true)), VOp.mk (some 13) (.fieldAddr 34 (.tmp 3) 1) (some (some 10, true)), VOp.mk (some 14) (.load 32 (.tmp 13))
  (some (some 10, true)), VOp.mk (some 15) (.call (.mk (.value (.func 16)) #[.tmp 12, .tmp 14] #[32, 32])) (some (some 10, true)), VOp.mk (some 16) (.pick (.tmp 10) (.tmp 15)
  (.const (.bool false))) none, VOp.mk (some 4) (.assign (.tmp 16)) none]).seq VCode.ret)
theorem fn11 : FnOk Tryz.prog 11 17 vc11 [ResultVar.tmp 4] := ⟨Tryz.f11, _, [], Tryz.func11, rfl, rfl, rfl, by kernel_rfl, by kernel_rfl, by kernel_rfl⟩

/-- wafer/waferlaw13.one -/
def vc12 : VCode := (VCode.ops [VOp.mk (some 2) (.box 39 (.tmp 0)) none, VOp.mk (some 3) (.box 39 (.tmp 1)) none, VOp.mk (some 4) (.assign (.const (.bool false))) none]).seq
  ((VCode.ops [VOp.mk (some 5) (.load 39 (.tmp 2)) none, VOp.mk (some 6) (.load 39 (.tmp 3)) none, VOp.mk (some 7) (.call (.mk (.value (.func 45)) #[.tmp 5, .tmp 6] #[39, 39]))
  none, VOp.mk (some 4) (.assign (.tmp 7)) none]).seq VCode.ret)
theorem fn12 : FnOk Tryz.prog 12 8 vc12 [ResultVar.tmp 4] := ⟨Tryz.f12, _, [], Tryz.func12, rfl, rfl, rfl, by kernel_rfl, by kernel_rfl, by kernel_rfl⟩

/-- (wafer/env.Env).Sub -/
def vc14 : VCode := (VCode.ops [VOp.mk (some 2) (.box 52 (.tmp 0)) none, VOp.mk (some 4) (.alloc 67) none, VOp.mk (some 5) (.assign (.const (.int .i64 0))) none]).seq ((VCode.ops
  [VOp.mk (some 6) (.load 52 (.tmp 2)) none, VOp.mk (some 7) (.move (.tmp 1)) none, VOp.mk (some 8) (.makeFunc (.func 48) #[] #[.tmp 2]) none, VOp.mk (some 9) (.call (.mk (.value
  (.func 47)) #[.tmp 6, .tmp 7, .tmp 8, .func 51] #[52, 35, 138, 144])) none, VOp.mk (some 10) (.extract (.tmp 9) 0) none, VOp.mk (some 11) (.extract (.tmp 9) 1) none, VOp.mk none
  (.store 67 (.tmp 4) (.tmp 10)) none, VOp.mk (some 5) (.assign (.tmp 11)) none]).seq VCode.ret)
theorem fn14 : FnOk Tryz.prog 14 12 vc14 [ResultVar.cell 4 67, ResultVar.tmp 5] := ⟨Tryz.f14, _, [], Tryz.func14, rfl, rfl, rfl, by kernel_rfl, by kernel_rfl, by kernel_rfl⟩

/-- (wafer/env.Env).Typ -/
def vc15 : VCode := (VCode.ops [VOp.mk (some 2) (.box 52 (.tmp 0)) none, VOp.mk (some 4) (.alloc 72) none, VOp.mk (some 5) (.assign (.const (.int .i64 0))) none]).seq ((VCode.ops
  [VOp.mk (some 6) (.load 52 (.tmp 2)) none, VOp.mk (some 7) (.move (.tmp 1)) none, VOp.mk (some 8) (.makeFunc (.func 55) #[] #[.tmp 2]) none, VOp.mk (some 9) (.call (.mk (.value
  (.func 54)) #[.tmp 6, .tmp 7, .tmp 8, .func 58] #[52, 35, 149, 153])) none, VOp.mk (some 10) (.extract (.tmp 9) 0) none, VOp.mk (some 11) (.extract (.tmp 9) 1) none, VOp.mk none
  (.store 72 (.tmp 4) (.tmp 10)) none, VOp.mk (some 5) (.assign (.tmp 11)) none]).seq VCode.ret)
theorem fn15 : FnOk Tryz.prog 15 12 vc15 [ResultVar.cell 4 72, ResultVar.tmp 5] := ⟨Tryz.f15, _, [], Tryz.func15, rfl, rfl, rfl, by kernel_rfl, by kernel_rfl, by kernel_rfl⟩

/-- wafer/waferref08.Same -/
def vc16 : VCode := (VCode.ops [VOp.mk (some 2) (.box 32 (.tmp 0)) none, VOp.mk (some 3) (.box 32 (.tmp 1)) none, VOp.mk (some 4) (.assign (.const (.bool false))) none]).seq
  ((VCode.ops [VOp.mk (some 5) (.load 32 (.tmp 2)) none, VOp.mk (some 6) (.load 32 (.tmp 3)) none, VOp.mk (some 7) (.call (.mk (.value (.func 61)) #[.tmp 5, .tmp 6] #[32, 32]))
  none, VOp.mk (some 8) (.binOp .eql 3 (.tmp 7) (.const (.int .i64 0)) 3) none, VOp.mk (some 4) (.assign (.tmp 8)) none]).seq VCode.ret)
theorem fn16 : FnOk Tryz.prog 16 9 vc16 [ResultVar.tmp 4] := ⟨Tryz.f16, _, [], Tryz.func16, rfl, rfl, rfl, by kernel_rfl, by kernel_rfl, by kernel_rfl⟩

/-- (wafer/env.Env).Fun -/
def vc21 : VCode := (VCode.ops [VOp.mk (some 2) (.box 52 (.tmp 0)) none, VOp.mk (some 4) (.alloc 91) none, VOp.mk (some 5) (.assign (.const (.int .i64 0))) none]).seq ((VCode.ops
  [VOp.mk (some 6) (.load 52 (.tmp 2)) none, VOp.mk (some 7) (.move (.tmp 1)) none, VOp.mk (some 8) (.makeFunc (.func 68) #[] #[.tmp 2]) none, VOp.mk (some 9) (.call (.mk (.value
  (.func 67)) #[.tmp 6, .tmp 7, .tmp 8, .func 71] #[52, 35, 167, 171])) none, VOp.mk (some 10) (.extract (.tmp 9) 0) none, VOp.mk (some 11) (.extract (.tmp 9) 1) none, VOp.mk none
  (.store 91 (.tmp 4) (.tmp 10)) none, VOp.mk (some 5) (.assign (.tmp 11)) none]).seq VCode.ret)
theorem fn21 : FnOk Tryz.prog 21 12 vc21 [ResultVar.cell 4 91, ResultVar.tmp 5] := ⟨Tryz.f21, _, [], Tryz.func21, rfl, rfl, rfl, by kernel_rfl, by kernel_rfl, by kernel_rfl⟩

/-- (wafer/env.Env).Sig -/
def vc25 : VCode := (VCode.ops [VOp.mk (some 2) (.box 52 (.tmp 0)) none, VOp.mk (some 4) (.alloc 100) none, VOp.mk (some 5) (.assign (.const (.int .i64 0))) none]).seq ((VCode.ops
  [VOp.mk (some 6) (.load 52 (.tmp 2)) none, VOp.mk (some 7) (.move (.tmp 1)) none, VOp.mk (some 8) (.makeFunc (.func 75) #[] #[.tmp 2]) none, VOp.mk (some 9) (.call (.mk (.value
  (.func 74)) #[.tmp 6, .tmp 7, .tmp 8, .func 78] #[52, 35, 176, 180])) none, VOp.mk (some 10) (.extract (.tmp 9) 0) none, VOp.mk (some 11) (.extract (.tmp 9) 1) none, VOp.mk none
  (.store 100 (.tmp 4) (.tmp 10)) none, VOp.mk (some 5) (.assign (.tmp 11)) none]).seq VCode.ret)
theorem fn25 : FnOk Tryz.prog 25 12 vc25 [ResultVar.cell 4 100, ResultVar.tmp 5] := ⟨Tryz.f25, _, [], Tryz.func25, rfl, rfl, rfl, by kernel_rfl, by kernel_rfl, by kernel_rfl⟩

/-- wafer/env.look[wafer/env.Val] -/
def vc37 : VCode := (VCode.ops [VOp.mk (some 4) (.box 52 (.tmp 0)) none, VOp.mk (some 8) (.alloc 42) none, VOp.mk (some 9) (.assign (.const (.int .i64 0))) none]).seq ((VCode.ops
  [VOp.mk (some 10) (.alloc 42) none]).seq ((VCode.ops [VOp.mk (some 18) (.move (.tmp 1)) none, VOp.mk (some 19) (.call (.mk (.builtin .len) #[.tmp 18] #[35])) none, VOp.mk (some
  20) (.binOp .sub 3 (.tmp 19) (.const (.int .i64 1)) 3) none, VOp.mk (some 11) (.assign (.tmp 20)) none]).seq (((VCode.ops [VOp.mk (some 21) (.move (.tmp 11)) none, VOp.mk (some
  22) (.binOp .lss 3 (.tmp 21) (.const (.int .i64 0)) 3) none]).seq (VCode.cond (.tmp 22) ((VCode.ops [VOp.mk (some 23) (.load 42 (.tmp 10)) none, VOp.mk none (.store 42 (.tmp 8)
  (.tmp 23)) none, VOp.mk (some 9) (.assign (.const (.int .i64 21))) none]).seq VCode.ret) VCode.skip)).seq (((VCode.ops [VOp.mk (some 24) (.move (.tmp 11)) none, VOp.mk (some 25)
  (.binOp .eql 3 (.tmp 24) (.const (.int .i64 0)) 3) none]).seq (VCode.cond (.tmp 25) (((VCode.ops [VOp.mk (some 27) (.move (.tmp 2)) none, VOp.mk (some 28) (.move (.tmp 1)) none,
  VOp.mk (some 29) (.indexAddr 35 (.tmp 28) (.const (.int .i64 0))) none, VOp.mk (some 30) (.load 9 (.tmp 29)) none, VOp.mk (some 31) (.call (.mk (.value (.tmp 27)) #[.tmp 30]
  #[9])) none, VOp.mk (some 26) (.move (.tmp 31)) none, VOp.mk (some 32) (.extract (.tmp 26) 0) none, VOp.mk (some 33) (.extract (.tmp 26) 1) none, VOp.mk (some 12) (.alloc 42)
  none, VOp.mk none (.store 42 (.tmp 12) (.tmp 32)) none, VOp.mk (some 13) (.assign (.tmp 33)) none]).seq ((VCode.ops [VOp.mk (some 34) (.move (.tmp 13)) none]).seq (VCode.cond
  (.tmp 34) ((VCode.ops [VOp.mk (some 35) (.load 42 (.tmp 12)) none, VOp.mk none (.store 42 (.tmp 8) (.tmp 35)) none, VOp.mk (some 9) (.assign (.const (.int .i64 0))) none]).seq
  VCode.ret) VCode.skip))).seq ((VCode.ops [VOp.mk (some 36) (.load 42 (.tmp 10)) none, VOp.mk none (.store 42 (.tmp 8) (.tmp 36)) none, VOp.mk (some 9) (.assign (.const (.int .i64
  21))) none]).seq VCode.ret)) VCode.skip)).seq ((VCode.opsB (VBT.ro 0 (VOp.mk (some 38) (.load 52 (.tmp 4)) none) (VBT.ro 1 (VOp.mk (some 39) (.move (.tmp 1)) none) (VBT.ro 2
  (VOp.mk (some 40) (.move (.tmp 11)) none) (VBT.ro 3 (VOp.mk (some 41) (.slice 35 (.tmp 39) none (some (.tmp 40)) none) none) (VBT.alt 4 (VOp.mk (some 42) (.call (.mk (.value
  (.func 14)) #[.tmp 38, .tmp 41] #[52, 35])) none) (VBT.ro 5 (VOp.mk (some 37) (.move (.tmp 42)) none) (VBT.ro 6 (VOp.mk (some 43) (.extract (.tmp 37) 0) none) (VBT.ro 7 (VOp.mk
  (some 44) (.extract (.tmp 37) 1) none) (VBT.alt 8 (VOp.mk (some 14) (.alloc 67) none) (VBT.alt 9 (VOp.mk none (.store 67 (.tmp 14) (.tmp 43)) none) (VBT.ro 10 (VOp.mk (some 15)
  (.assign (.tmp 44)) none) VBT.leaf) VBT.no) VBT.no)))) (VBT.alt 8 (VOp.mk (some 14) (.alloc 67) none) (VBT.alt 4 (VOp.mk (some 42) (.call (.mk (.value (.func 14)) #[.tmp 38, .tmp
  41] #[52, 35])) none) (VBT.ro 5 (VOp.mk (some 37) (.move (.tmp 42)) none) (VBT.ro 6 (VOp.mk (some 43) (.extract (.tmp 37) 0) none) (VBT.ro 7 (VOp.mk (some 44) (.extract (.tmp 37)
  1) none) (VBT.alt 9 (VOp.mk none (.store 67 (.tmp 14) (.tmp 43)) none) (VBT.ro 10 (VOp.mk (some 15) (.assign (.tmp 44)) none) VBT.leaf) VBT.no)))) VBT.no) VBT.no)))))) [(8, [0,
  3])]).seq (((VCode.ops [VOp.mk (some 45) (.move (.tmp 15)) none, VOp.mk (some 46) (.binOp .neq 43 (.tmp 45) (.const (.int .i64 0)) 43) none]).seq (VCode.cond (.tmp 46) ((VCode.ops
  [VOp.mk (some 47) (.load 42 (.tmp 10)) none, VOp.mk (some 48) (.move (.tmp 15)) none, VOp.mk none (.store 42 (.tmp 8) (.tmp 47)) none, VOp.mk (some 9) (.assign (.tmp 48))
  none]).seq VCode.ret) VCode.skip)).seq (((VCode.opsB (VBT.ro 0 (VOp.mk (some 50) (.move (.tmp 3)) none) (VBT.ro 1 (VOp.mk (some 51) (.load 67 (.tmp 14)) none) (VBT.ro 2 (VOp.mk
  (some 52) (.move (.tmp 1)) none) (VBT.ro 3 (VOp.mk (some 53) (.move (.tmp 11)) none) (VBT.ro 4 (VOp.mk (some 54) (.indexAddr 35 (.tmp 52) (.tmp 53)) none) (VBT.ro 5 (VOp.mk (some
  55) (.load 9 (.tmp 54)) none) (VBT.alt 6 (VOp.mk (some 56) (.call (.mk (.value (.tmp 50)) #[.tmp 51, .tmp 55] #[67, 9])) none) (VBT.ro 7 (VOp.mk (some 49) (.move (.tmp 56)) none)
  (VBT.ro 8 (VOp.mk (some 57) (.extract (.tmp 49) 0) none) (VBT.ro 9 (VOp.mk (some 58) (.extract (.tmp 49) 1) none) (VBT.alt 10 (VOp.mk (some 16) (.alloc 42) none) (VBT.alt 11
  (VOp.mk none (.store 42 (.tmp 16) (.tmp 57)) none) (VBT.ro 12 (VOp.mk (some 17) (.assign (.tmp 58)) none) VBT.leaf) VBT.no) VBT.no)))) (VBT.alt 10 (VOp.mk (some 16) (.alloc 42)
  none) (VBT.alt 6 (VOp.mk (some 56) (.call (.mk (.value (.tmp 50)) #[.tmp 51, .tmp 55] #[67, 9])) none) (VBT.ro 7 (VOp.mk (some 49) (.move (.tmp 56)) none) (VBT.ro 8 (VOp.mk (some
  57) (.extract (.tmp 49) 0) none) (VBT.ro 9 (VOp.mk (some 58) (.extract (.tmp 49) 1) none) (VBT.alt 11 (VOp.mk none (.store 42 (.tmp 16) (.tmp 57)) none) (VBT.ro 12 (VOp.mk (some
  17) (.assign (.tmp 58)) none) VBT.leaf) VBT.no)))) VBT.no) VBT.no)))))))) [(10, [1, 4, 5])]).seq ((VCode.ops [VOp.mk (some 59) (.move (.tmp 17)) none]).seq (VCode.cond (.tmp 59)
  ((VCode.ops [VOp.mk (some 60) (.load 42 (.tmp 16)) none, VOp.mk none (.store 42 (.tmp 8) (.tmp 60)) none, VOp.mk (some 9) (.assign (.const (.int .i64 0))) none]).seq VCode.ret)
  VCode.skip))).seq ((VCode.ops [VOp.mk (some 61) (.load 42 (.tmp 10)) none, VOp.mk none (.store 42 (.tmp 8) (.tmp 61)) none, VOp.mk (some 9) (.assign (.const (.int .i64 21)))
  none]).seq VCode.ret))))))))
theorem fn37 : FnOk Tryz.prog 37 62 vc37 [ResultVar.cell 8 42, ResultVar.tmp 9] := ⟨Tryz.f37, _, [(10, [([0, 1, 2, 3, 4, 5, 6, 7, 8, 9, 10], [(8, [0, 3])]), ([0, 1, 2, 3, 8, 4, 5,
  6, 7, 9, 10], []), ([0, 1, 2, 3, 8, 4, 5, 6, 7, 9, 10], [])]), (13, [([0, 1, 2, 3, 4, 5, 6, 7, 8, 9, 10, 11, 12], [(10, [1, 4, 5])]), ([0, 1, 2, 3, 4, 5, 10, 6, 7, 8, 9, 11, 12],
  []), ([0, 1, 2, 3, 4, 5, 10, 6, 7, 8, 9, 11, 12], [])])], Tryz.func37, rfl, rfl, rfl, by kernel_rfl, by kernel_rfl, by kernel_rfl⟩

/-- (wafer/env.Env).Val$1 -/
def vc38 : VCode := (VCode.ops [VOp.mk (some 2) (.box 9 (.tmp 0)) none, VOp.mk (some 3) (.alloc 42) none, VOp.mk (some 4) (.assign (.const (.bool false))) none]).seq ((VCode.ops
  [VOp.mk (some 5) (.fieldAddr 52 (.tmp 1) 0) none, VOp.mk (some 6) (.load 45 (.tmp 5)) none, VOp.mk (some 7) (.makeFunc (.func 40) #[] #[.tmp 2]) none, VOp.mk (some 8) (.call (.mk
  (.value (.func 39)) #[.tmp 6, .tmp 7] #[45, 123])) none, VOp.mk (some 9) (.extract (.tmp 8) 0) none, VOp.mk (some 10) (.extract (.tmp 8) 1) none, VOp.mk none (.store 42 (.tmp 3)
  (.tmp 9)) none, VOp.mk (some 4) (.assign (.tmp 10)) none]).seq VCode.ret)
theorem fn38 : FnOk Tryz.prog 38 11 vc38 [ResultVar.cell 3 42, ResultVar.tmp 4] := ⟨Tryz.f38, _, [], Tryz.func38, rfl, rfl, rfl, by kernel_rfl, by kernel_rfl, by kernel_rfl⟩

/-- wafer/env.last[wafer/env.Val] -/
def vc39 : VCode := (VCode.ops [VOp.mk (some 3) (.box 123 (.tmp 1)) none, VOp.mk (some 4) (.alloc 42) none, VOp.mk (some 5) (.alloc 4) none]).seq (((VCode.ops [VOp.mk (some 9)
  (.move (.tmp 0)) none, VOp.mk (some 10) (.call (.mk (.value (.func 112)) #[.tmp 9] #[45])) none]).seq (VCode.block 0 (VCode.rangeF (.tmp 10) [11, 12] (VCode.ops [VOp.mk (some 7)
  (.alloc 42) none, VOp.mk none (.store 42 (.tmp 7) (.tmp 12)) none]) (VCode.block 1 ((VCode.ops [VOp.mk (some 13) (.load 123 (.tmp 3)) none, VOp.mk (some 14) (.load 42 (.tmp 7))
  none, VOp.mk (some 15) (.call (.mk (.value (.tmp 13)) #[.tmp 14] #[42])) none]).seq (VCode.cond (.tmp 15) ((VCode.ops [VOp.mk (some 16) (.load 42 (.tmp 7)) none, VOp.mk none
  (.store 42 (.tmp 4) (.tmp 16)) none, VOp.mk none (.store 4 (.tmp 5) (.const (.bool true))) none]).seq VCode.ret) VCode.skip)))))).seq ((VCode.ops [VOp.mk (some 8) (.alloc 42)
  none]).seq ((VCode.ops [VOp.mk (some 17) (.load 42 (.tmp 8)) none, VOp.mk none (.store 42 (.tmp 4) (.tmp 17)) none, VOp.mk none (.store 4 (.tmp 5) (.const (.bool false)))
  none]).seq VCode.ret)))
theorem fn39 : FnOk Tryz.prog 39 18 vc39 [ResultVar.cell 4 42, ResultVar.cell 5 4] := ⟨Tryz.f39, _, [], Tryz.func39, rfl, rfl, rfl, by kernel_rfl, by kernel_rfl, by kernel_rfl⟩

/-- (wafer/env.Env).Val$1$1 -/
def vc40 : VCode := (VCode.ops [VOp.mk (some 2) (.box 42 (.tmp 0)) none, VOp.mk (some 3) (.assign (.const (.bool false))) none]).seq ((VCode.ops [VOp.mk (some 4) (.fieldAddr 42
  (.tmp 2) 0) none, VOp.mk (some 5) (.load 9 (.tmp 4)) none, VOp.mk (some 6) (.load 9 (.tmp 1)) none, VOp.mk (some 7) (.binOp .eql 9 (.tmp 5) (.tmp 6) 9) none, VOp.mk (some 3)
  (.assign (.tmp 7)) none]).seq VCode.ret)
theorem fn40 : FnOk Tryz.prog 40 8 vc40 [ResultVar.tmp 3] := ⟨Tryz.f40, _, [], Tryz.func40, rfl, rfl, rfl, by kernel_rfl, by kernel_rfl, by kernel_rfl⟩

/-- (wafer/env.Env).Val$2 -/
def vc41 : VCode := (VCode.ops [VOp.mk (some 2) (.box 67 (.tmp 0)) none, VOp.mk (some 3) (.box 9 (.tmp 1)) none, VOp.mk (some 4) (.alloc 42) none, VOp.mk (some 5) (.assign (.const
  (.bool false))) none]).seq ((VCode.ops [VOp.mk (some 9) (.fieldAddr 67 (.tmp 2) 1) none, VOp.mk (some 10) (.fieldAddr 65 (.tmp 9) 1) none, VOp.mk (some 11) (.load 60 (.tmp 10))
  none, VOp.mk (some 12) (.makeFunc (.func 43) #[] #[.tmp 3]) none, VOp.mk (some 13) (.call (.mk (.value (.func 42)) #[.tmp 11, .tmp 12] #[60, 129])) none, VOp.mk (some 8) (.move
  (.tmp 13)) none, VOp.mk (some 14) (.extract (.tmp 8) 0) none, VOp.mk (some 15) (.extract (.tmp 8) 1) none, VOp.mk (some 6) (.alloc 126) none, VOp.mk none (.store 126 (.tmp 6)
  (.tmp 14)) none, VOp.mk (some 7) (.assign (.tmp 15)) none]).seq ((VCode.opsW [(0, VOp.mk (some 16) (.load 9 (.tmp 3)) none), (1, VOp.mk (some 17) (.fieldAddr 126 (.tmp 6) 1)
  none), (2, VOp.mk (some 18) (.load 34 (.tmp 17)) none), (3, VOp.mk (some 19) (.load 9 (.tmp 3)) none), (4, VOp.mk (some 20) (.fieldAddr 67 (.tmp 2) 2) none), (5, VOp.mk (some 21)
  (.load 39 (.tmp 20)) none), (8, VOp.mk (some 24) (.move (.tmp 7)) none), (6, VOp.mk (some 22) (.call (.mk (.value (.func 44)) #[.tmp 19, .tmp 21] #[9, 39])) none), (7, VOp.mk
  (some 23) (.build 42 #[(0, .tmp 16), (1, .tmp 18), (2, .tmp 22)]) none), (9, VOp.mk none (.store 42 (.tmp 4) (.tmp 23)) none), (10, VOp.mk (some 5) (.assign (.tmp 24)) none)] [(6,
  [0, 1, 2])]).seq VCode.ret))
theorem fn41 : FnOk Tryz.prog 41 25 vc41 [ResultVar.cell 4 42, ResultVar.tmp 5] := ⟨Tryz.f41, _, [(2, [([0, 1, 2, 3, 4, 5, 8, 6, 7, 9, 10], [(6, [0, 1, 2])])])], Tryz.func41, rfl,
  rfl, rfl, by kernel_rfl, by kernel_rfl, by kernel_rfl⟩

/-- wafer/env.last[wafer/api.ValMember] -/
def vc42 : VCode := (VCode.ops [VOp.mk (some 3) (.box 129 (.tmp 1)) none, VOp.mk (some 4) (.alloc 126) none, VOp.mk (some 5) (.alloc 4) none]).seq (((VCode.ops [VOp.mk (some 9)
  (.move (.tmp 0)) none, VOp.mk (some 10) (.call (.mk (.value (.func 113)) #[.tmp 9] #[60])) none]).seq (VCode.block 0 (VCode.rangeF (.tmp 10) [11, 12] (VCode.ops [VOp.mk (some 7)
  (.alloc 126) none, VOp.mk none (.store 126 (.tmp 7) (.tmp 12)) none]) (VCode.block 1 ((VCode.ops [VOp.mk (some 13) (.load 129 (.tmp 3)) none, VOp.mk (some 14) (.load 126 (.tmp 7))
  none, VOp.mk (some 15) (.call (.mk (.value (.tmp 13)) #[.tmp 14] #[126])) none]).seq (VCode.cond (.tmp 15) ((VCode.ops [VOp.mk (some 16) (.load 126 (.tmp 7)) none, VOp.mk none
  (.store 126 (.tmp 4) (.tmp 16)) none, VOp.mk none (.store 4 (.tmp 5) (.const (.bool true))) none]).seq VCode.ret) VCode.skip)))))).seq ((VCode.ops [VOp.mk (some 8) (.alloc 126)
  none]).seq ((VCode.ops [VOp.mk (some 17) (.load 126 (.tmp 8)) none, VOp.mk none (.store 126 (.tmp 4) (.tmp 17)) none, VOp.mk none (.store 4 (.tmp 5) (.const (.bool false)))
  none]).seq VCode.ret)))
theorem fn42 : FnOk Tryz.prog 42 18 vc42 [ResultVar.cell 4 126, ResultVar.cell 5 4] := ⟨Tryz.f42, _, [], Tryz.func42, rfl, rfl, rfl, by kernel_rfl, by kernel_rfl, by kernel_rfl⟩

/-- (wafer/env.Env).Val$2$1 -/
def vc43 : VCode := (VCode.ops [VOp.mk (some 2) (.box 126 (.tmp 0)) none, VOp.mk (some 3) (.assign (.const (.bool false))) none]).seq ((VCode.ops [VOp.mk (some 4) (.fieldAddr 126
  (.tmp 2) 0) none, VOp.mk (some 5) (.load 9 (.tmp 4)) none, VOp.mk (some 6) (.load 9 (.tmp 1)) none, VOp.mk (some 7) (.binOp .eql 9 (.tmp 5) (.tmp 6) 9) none, VOp.mk (some 3)
  (.assign (.tmp 7)) none]).seq VCode.ret)
theorem fn43 : FnOk Tryz.prog 43 8 vc43 [ResultVar.tmp 3] := ⟨Tryz.f43, _, [], Tryz.func43, rfl, rfl, rfl, by kernel_rfl, by kernel_rfl, by kernel_rfl⟩

/-- wafer/env.sel -/
def vc44 : VCode := (VCode.ops [VOp.mk (some 3) (.box 39 (.tmp 1)) none, VOp.mk (some 4) (.alloc 39) none]).seq ((VCode.ops [VOp.mk (some 5) (.move (.tmp 0)) none, VOp.mk (some 6)
  (.load 39 (.tmp 3)) none, VOp.mk (some 7) (.buildSlice 37 1 #[(0, .tmp 6)]) none, VOp.mk (some 8) (.build 39 #[(0, .const (.int .i64 15)), (3, .tmp 5), (6, .tmp 7)]) none, VOp.mk
  none (.store 39 (.tmp 4) (.tmp 8)) none]).seq VCode.ret)
theorem fn44 : FnOk Tryz.prog 44 9 vc44 [ResultVar.cell 4 39] := ⟨Tryz.f44, _, [], Tryz.func44, rfl, rfl, rfl, by kernel_rfl, by kernel_rfl, by kernel_rfl⟩

/-- wafer/waferref09.SameTerm -/
def vc45 : VCode := (VCode.ops [VOp.mk (some 2) (.box 39 (.tmp 0)) none, VOp.mk (some 3) (.box 39 (.tmp 1)) none, VOp.mk (some 4) (.assign (.const (.bool false))) none]).seq
  ((VCode.ops [VOp.mk (some 5) (.load 39 (.tmp 2)) none, VOp.mk (some 6) (.load 39 (.tmp 3)) none, VOp.mk (some 7) (.build 237 #[]) none, VOp.mk (some 8) (.build 237 #[]) none,
  VOp.mk (some 9) (.call (.mk (.value (.func 114)) #[.tmp 5, .tmp 6, .tmp 7, .tmp 8] #[39, 39, 237, 237])) none, VOp.mk (some 4) (.assign (.tmp 9)) none]).seq VCode.ret)
theorem fn45 : FnOk Tryz.prog 45 10 vc45 [ResultVar.tmp 4] := ⟨Tryz.f45, _, [], Tryz.func45, rfl, rfl, rfl, by kernel_rfl, by kernel_rfl, by kernel_rfl⟩

/-- wafer/env.look[wafer/env.Sub] -/
def vc47 : VCode := (VCode.ops [VOp.mk (some 4) (.box 52 (.tmp 0)) none, VOp.mk (some 8) (.alloc 67) none, VOp.mk (some 9) (.assign (.const (.int .i64 0))) none]).seq ((VCode.ops
  [VOp.mk (some 10) (.alloc 67) none]).seq ((VCode.ops [VOp.mk (some 18) (.move (.tmp 1)) none, VOp.mk (some 19) (.call (.mk (.builtin .len) #[.tmp 18] #[35])) none, VOp.mk (some
  20) (.binOp .sub 3 (.tmp 19) (.const (.int .i64 1)) 3) none, VOp.mk (some 11) (.assign (.tmp 20)) none]).seq (((VCode.ops [VOp.mk (some 21) (.move (.tmp 11)) none, VOp.mk (some
  22) (.binOp .lss 3 (.tmp 21) (.const (.int .i64 0)) 3) none]).seq (VCode.cond (.tmp 22) ((VCode.ops [VOp.mk (some 23) (.load 67 (.tmp 10)) none, VOp.mk none (.store 67 (.tmp 8)
  (.tmp 23)) none, VOp.mk (some 9) (.assign (.const (.int .i64 21))) none]).seq VCode.ret) VCode.skip)).seq (((VCode.ops [VOp.mk (some 24) (.move (.tmp 11)) none, VOp.mk (some 25)
  (.binOp .eql 3 (.tmp 24) (.const (.int .i64 0)) 3) none]).seq (VCode.cond (.tmp 25) (((VCode.ops [VOp.mk (some 27) (.move (.tmp 2)) none, VOp.mk (some 28) (.move (.tmp 1)) none,
  VOp.mk (some 29) (.indexAddr 35 (.tmp 28) (.const (.int .i64 0))) none, VOp.mk (some 30) (.load 9 (.tmp 29)) none, VOp.mk (some 31) (.call (.mk (.value (.tmp 27)) #[.tmp 30]
  #[9])) none, VOp.mk (some 26) (.move (.tmp 31)) none, VOp.mk (some 32) (.extract (.tmp 26) 0) none, VOp.mk (some 33) (.extract (.tmp 26) 1) none, VOp.mk (some 12) (.alloc 67)
  none, VOp.mk none (.store 67 (.tmp 12) (.tmp 32)) none, VOp.mk (some 13) (.assign (.tmp 33)) none]).seq ((VCode.ops [VOp.mk (some 34) (.move (.tmp 13)) none]).seq (VCode.cond
  (.tmp 34) ((VCode.ops [VOp.mk (some 35) (.load 67 (.tmp 12)) none, VOp.mk none (.store 67 (.tmp 8) (.tmp 35)) none, VOp.mk (some 9) (.assign (.const (.int .i64 0))) none]).seq
  VCode.ret) VCode.skip))).seq ((VCode.ops [VOp.mk (some 36) (.load 67 (.tmp 10)) none, VOp.mk none (.store 67 (.tmp 8) (.tmp 36)) none, VOp.mk (some 9) (.assign (.const (.int .i64
  21))) none]).seq VCode.ret)) VCode.skip)).seq ((VCode.opsB (VBT.ro 0 (VOp.mk (some 38) (.load 52 (.tmp 4)) none) (VBT.ro 1 (VOp.mk (some 39) (.move (.tmp 1)) none) (VBT.ro 2
  (VOp.mk (some 40) (.move (.tmp 11)) none) (VBT.ro 3 (VOp.mk (some 41) (.slice 35 (.tmp 39) none (some (.tmp 40)) none) none) (VBT.alt 4 (VOp.mk (some 42) (.call (.mk (.value
  (.func 14)) #[.tmp 38, .tmp 41] #[52, 35])) none) (VBT.ro 5 (VOp.mk (some 37) (.move (.tmp 42)) none) (VBT.ro 6 (VOp.mk (some 43) (.extract (.tmp 37) 0) none) (VBT.ro 7 (VOp.mk
  (some 44) (.extract (.tmp 37) 1) none) (VBT.alt 8 (VOp.mk (some 14) (.alloc 67) none) (VBT.alt 9 (VOp.mk none (.store 67 (.tmp 14) (.tmp 43)) none) (VBT.ro 10 (VOp.mk (some 15)
  (.assign (.tmp 44)) none) VBT.leaf) VBT.no) VBT.no)))) (VBT.alt 8 (VOp.mk (some 14) (.alloc 67) none) (VBT.alt 4 (VOp.mk (some 42) (.call (.mk (.value (.func 14)) #[.tmp 38, .tmp
  41] #[52, 35])) none) (VBT.ro 5 (VOp.mk (some 37) (.move (.tmp 42)) none) (VBT.ro 6 (VOp.mk (some 43) (.extract (.tmp 37) 0) none) (VBT.ro 7 (VOp.mk (some 44) (.extract (.tmp 37)
  1) none) (VBT.alt 9 (VOp.mk none (.store 67 (.tmp 14) (.tmp 43)) none) (VBT.ro 10 (VOp.mk (some 15) (.assign (.tmp 44)) none) VBT.leaf) VBT.no)))) VBT.no) VBT.no)))))) [(8, [0,
  3])]).seq (((VCode.ops [VOp.mk (some 45) (.move (.tmp 15)) none, VOp.mk (some 46) (.binOp .neq 43 (.tmp 45) (.const (.int .i64 0)) 43) none]).seq (VCode.cond (.tmp 46) ((VCode.ops
  [VOp.mk (some 47) (.load 67 (.tmp 10)) none, VOp.mk (some 48) (.move (.tmp 15)) none, VOp.mk none (.store 67 (.tmp 8) (.tmp 47)) none, VOp.mk (some 9) (.assign (.tmp 48))
  none]).seq VCode.ret) VCode.skip)).seq (((VCode.opsB (VBT.ro 0 (VOp.mk (some 50) (.move (.tmp 3)) none) (VBT.ro 1 (VOp.mk (some 51) (.load 67 (.tmp 14)) none) (VBT.ro 2 (VOp.mk
  (some 52) (.move (.tmp 1)) none) (VBT.ro 3 (VOp.mk (some 53) (.move (.tmp 11)) none) (VBT.ro 4 (VOp.mk (some 54) (.indexAddr 35 (.tmp 52) (.tmp 53)) none) (VBT.ro 5 (VOp.mk (some
  55) (.load 9 (.tmp 54)) none) (VBT.alt 6 (VOp.mk (some 56) (.call (.mk (.value (.tmp 50)) #[.tmp 51, .tmp 55] #[67, 9])) none) (VBT.ro 7 (VOp.mk (some 49) (.move (.tmp 56)) none)
  (VBT.ro 8 (VOp.mk (some 57) (.extract (.tmp 49) 0) none) (VBT.ro 9 (VOp.mk (some 58) (.extract (.tmp 49) 1) none) (VBT.alt 10 (VOp.mk (some 16) (.alloc 67) none) (VBT.alt 11
  (VOp.mk none (.store 67 (.tmp 16) (.tmp 57)) none) (VBT.ro 12 (VOp.mk (some 17) (.assign (.tmp 58)) none) VBT.leaf) VBT.no) VBT.no)))) (VBT.alt 10 (VOp.mk (some 16) (.alloc 67)
  none) (VBT.alt 6 (VOp.mk (some 56) (.call (.mk (.value (.tmp 50)) #[.tmp 51, .tmp 55] #[67, 9])) none) (VBT.ro 7 (VOp.mk (some 49) (.move (.tmp 56)) none) (VBT.ro 8 (VOp.mk (some
  57) (.extract (.tmp 49) 0) none) (VBT.ro 9 (VOp.mk (some 58) (.extract (.tmp 49) 1) none) (VBT.alt 11 (VOp.mk none (.store 67 (.tmp 16) (.tmp 57)) none) (VBT.ro 12 (VOp.mk (some
  17) (.assign (.tmp 58)) none) VBT.leaf) VBT.no)))) VBT.no) VBT.no)))))))) [(10, [1, 4, 5])]).seq ((VCode.ops [VOp.mk (some 59) (.move (.tmp 17)) none]).seq (VCode.cond (.tmp 59)
  ((VCode.ops [VOp.mk (some 60) (.load 67 (.tmp 16)) none, VOp.mk none (.store 67 (.tmp 8) (.tmp 60)) none, VOp.mk (some 9) (.assign (.const (.int .i64 0))) none]).seq VCode.ret)
  VCode.skip))).seq ((VCode.ops [VOp.mk (some 61) (.load 67 (.tmp 10)) none, VOp.mk none (.store 67 (.tmp 8) (.tmp 61)) none, VOp.mk (some 9) (.assign (.const (.int .i64 21)))
  none]).seq VCode.ret))))))))
theorem fn47 : FnOk Tryz.prog 47 62 vc47 [ResultVar.cell 8 67, ResultVar.tmp 9] := ⟨Tryz.f47, _, [(10, [([0, 1, 2, 3, 4, 5, 6, 7, 8, 9, 10], [(8, [0, 3])]), ([0, 1, 2, 3, 8, 4, 5,
  6, 7, 9, 10], []), ([0, 1, 2, 3, 8, 4, 5, 6, 7, 9, 10], [])]), (13, [([0, 1, 2, 3, 4, 5, 6, 7, 8, 9, 10, 11, 12], [(10, [1, 4, 5])]), ([0, 1, 2, 3, 4, 5, 10, 6, 7, 8, 9, 11, 12],
  []), ([0, 1, 2, 3, 4, 5, 10, 6, 7, 8, 9, 11, 12], [])])], Tryz.func47, rfl, rfl, rfl, by kernel_rfl, by kernel_rfl, by kernel_rfl⟩

/-- (wafer/env.Env).Sub$1 -/
def vc48 : VCode := (VCode.ops [VOp.mk (some 2) (.box 9 (.tmp 0)) none, VOp.mk (some 3) (.alloc 67) none, VOp.mk (some 4) (.assign (.const (.bool false))) none]).seq ((VCode.ops
  [VOp.mk (some 5) (.fieldAddr 52 (.tmp 1) 3) none, VOp.mk (some 6) (.load 48 (.tmp 5)) none, VOp.mk (some 7) (.makeFunc (.func 50) #[] #[.tmp 2]) none, VOp.mk (some 8) (.call (.mk
  (.value (.func 49)) #[.tmp 6, .tmp 7] #[48, 137])) none, VOp.mk (some 9) (.extract (.tmp 8) 0) none, VOp.mk (some 10) (.extract (.tmp 8) 1) none, VOp.mk none (.store 67 (.tmp 3)
  (.tmp 9)) none, VOp.mk (some 4) (.assign (.tmp 10)) none]).seq VCode.ret)
theorem fn48 : FnOk Tryz.prog 48 11 vc48 [ResultVar.cell 3 67, ResultVar.tmp 4] := ⟨Tryz.f48, _, [], Tryz.func48, rfl, rfl, rfl, by kernel_rfl, by kernel_rfl, by kernel_rfl⟩

/-- wafer/env.last[wafer/env.Sub] -/
def vc49 : VCode := (VCode.ops [VOp.mk (some 3) (.box 137 (.tmp 1)) none, VOp.mk (some 4) (.alloc 67) none, VOp.mk (some 5) (.alloc 4) none]).seq (((VCode.ops [VOp.mk (some 9)
  (.move (.tmp 0)) none, VOp.mk (some 10) (.call (.mk (.value (.func 115)) #[.tmp 9] #[48])) none]).seq (VCode.block 0 (VCode.rangeF (.tmp 10) [11, 12] (VCode.ops [VOp.mk (some 7)
  (.alloc 67) none, VOp.mk none (.store 67 (.tmp 7) (.tmp 12)) none]) (VCode.block 1 ((VCode.ops [VOp.mk (some 13) (.load 137 (.tmp 3)) none, VOp.mk (some 14) (.load 67 (.tmp 7))
  none, VOp.mk (some 15) (.call (.mk (.value (.tmp 13)) #[.tmp 14] #[67])) none]).seq (VCode.cond (.tmp 15) ((VCode.ops [VOp.mk (some 16) (.load 67 (.tmp 7)) none, VOp.mk none
  (.store 67 (.tmp 4) (.tmp 16)) none, VOp.mk none (.store 4 (.tmp 5) (.const (.bool true))) none]).seq VCode.ret) VCode.skip)))))).seq ((VCode.ops [VOp.mk (some 8) (.alloc 67)
  none]).seq ((VCode.ops [VOp.mk (some 17) (.load 67 (.tmp 8)) none, VOp.mk none (.store 67 (.tmp 4) (.tmp 17)) none, VOp.mk none (.store 4 (.tmp 5) (.const (.bool false)))
  none]).seq VCode.ret)))
theorem fn49 : FnOk Tryz.prog 49 18 vc49 [ResultVar.cell 4 67, ResultVar.cell 5 4] := ⟨Tryz.f49, _, [], Tryz.func49, rfl, rfl, rfl, by kernel_rfl, by kernel_rfl, by kernel_rfl⟩

/-- (wafer/env.Env).Sub$1$1 -/
def vc50 : VCode := (VCode.ops [VOp.mk (some 2) (.box 67 (.tmp 0)) none, VOp.mk (some 3) (.assign (.const (.bool false))) none]).seq ((VCode.ops [VOp.mk (some 4) (.fieldAddr 67
  (.tmp 2) 0) none, VOp.mk (some 5) (.load 9 (.tmp 4)) none, VOp.mk (some 6) (.load 9 (.tmp 1)) none, VOp.mk (some 7) (.binOp .eql 9 (.tmp 5) (.tmp 6) 9) none, VOp.mk (some 3)
  (.assign (.tmp 7)) none]).seq VCode.ret)
theorem fn50 : FnOk Tryz.prog 50 8 vc50 [ResultVar.tmp 3] := ⟨Tryz.f50, _, [], Tryz.func50, rfl, rfl, rfl, by kernel_rfl, by kernel_rfl, by kernel_rfl⟩

/-- (wafer/env.Env).Sub$2 -/
def vc51 : VCode := (VCode.ops [VOp.mk (some 2) (.box 67 (.tmp 0)) none, VOp.mk (some 3) (.box 9 (.tmp 1)) none, VOp.mk (some 4) (.alloc 67) none, VOp.mk (some 5) (.assign (.const
  (.bool false))) none]).seq ((VCode.ops [VOp.mk (some 9) (.fieldAddr 67 (.tmp 2) 1) none, VOp.mk (some 10) (.fieldAddr 65 (.tmp 9) 2) none, VOp.mk (some 11) (.load 61 (.tmp 10))
  none, VOp.mk (some 12) (.makeFunc (.func 53) #[] #[.tmp 3]) none, VOp.mk (some 13) (.call (.mk (.value (.func 52)) #[.tmp 11, .tmp 12] #[61, 143])) none, VOp.mk (some 8) (.move
  (.tmp 13)) none, VOp.mk (some 14) (.extract (.tmp 8) 0) none, VOp.mk (some 15) (.extract (.tmp 8) 1) none, VOp.mk (some 6) (.alloc 140) none, VOp.mk none (.store 140 (.tmp 6)
  (.tmp 14)) none, VOp.mk (some 7) (.assign (.tmp 15)) none]).seq ((VCode.opsW [(0, VOp.mk (some 16) (.load 9 (.tmp 3)) none), (1, VOp.mk (some 17) (.fieldAddr 140 (.tmp 6) 1)
  none), (2, VOp.mk (some 18) (.load 65 (.tmp 17)) none), (3, VOp.mk (some 19) (.load 9 (.tmp 3)) none), (4, VOp.mk (some 20) (.fieldAddr 67 (.tmp 2) 2) none), (5, VOp.mk (some 21)
  (.load 39 (.tmp 20)) none), (8, VOp.mk (some 24) (.move (.tmp 7)) none), (6, VOp.mk (some 22) (.call (.mk (.value (.func 44)) #[.tmp 19, .tmp 21] #[9, 39])) none), (7, VOp.mk
  (some 23) (.build 67 #[(0, .tmp 16), (1, .tmp 18), (2, .tmp 22)]) none), (9, VOp.mk none (.store 67 (.tmp 4) (.tmp 23)) none), (10, VOp.mk (some 5) (.assign (.tmp 24)) none)] [(6,
  [0, 1, 2])]).seq VCode.ret))
theorem fn51 : FnOk Tryz.prog 51 25 vc51 [ResultVar.cell 4 67, ResultVar.tmp 5] := ⟨Tryz.f51, _, [(2, [([0, 1, 2, 3, 4, 5, 8, 6, 7, 9, 10], [(6, [0, 1, 2])])])], Tryz.func51, rfl,
  rfl, rfl, by kernel_rfl, by kernel_rfl, by kernel_rfl⟩

/-- wafer/env.last[wafer/api.SubMember] -/
def vc52 : VCode := (VCode.ops [VOp.mk (some 3) (.box 143 (.tmp 1)) none, VOp.mk (some 4) (.alloc 140) none, VOp.mk (some 5) (.alloc 4) none]).seq (((VCode.ops [VOp.mk (some 9)
  (.move (.tmp 0)) none, VOp.mk (some 10) (.call (.mk (.value (.func 116)) #[.tmp 9] #[61])) none]).seq (VCode.block 0 (VCode.rangeF (.tmp 10) [11, 12] (VCode.ops [VOp.mk (some 7)
  (.alloc 140) none, VOp.mk none (.store 140 (.tmp 7) (.tmp 12)) none]) (VCode.block 1 ((VCode.ops [VOp.mk (some 13) (.load 143 (.tmp 3)) none, VOp.mk (some 14) (.load 140 (.tmp 7))
  none, VOp.mk (some 15) (.call (.mk (.value (.tmp 13)) #[.tmp 14] #[140])) none]).seq (VCode.cond (.tmp 15) ((VCode.ops [VOp.mk (some 16) (.load 140 (.tmp 7)) none, VOp.mk none
  (.store 140 (.tmp 4) (.tmp 16)) none, VOp.mk none (.store 4 (.tmp 5) (.const (.bool true))) none]).seq VCode.ret) VCode.skip)))))).seq ((VCode.ops [VOp.mk (some 8) (.alloc 140)
  none]).seq ((VCode.ops [VOp.mk (some 17) (.load 140 (.tmp 8)) none, VOp.mk none (.store 140 (.tmp 4) (.tmp 17)) none, VOp.mk none (.store 4 (.tmp 5) (.const (.bool false)))
  none]).seq VCode.ret)))
theorem fn52 : FnOk Tryz.prog 52 18 vc52 [ResultVar.cell 4 140, ResultVar.cell 5 4] := ⟨Tryz.f52, _, [], Tryz.func52, rfl, rfl, rfl, by kernel_rfl, by kernel_rfl, by kernel_rfl⟩

/-- (wafer/env.Env).Sub$2$1 -/
def vc53 : VCode := (VCode.ops [VOp.mk (some 2) (.box 140 (.tmp 0)) none, VOp.mk (some 3) (.assign (.const (.bool false))) none]).seq ((VCode.ops [VOp.mk (some 4) (.fieldAddr 140
  (.tmp 2) 0) none, VOp.mk (some 5) (.load 9 (.tmp 4)) none, VOp.mk (some 6) (.load 9 (.tmp 1)) none, VOp.mk (some 7) (.binOp .eql 9 (.tmp 5) (.tmp 6) 9) none, VOp.mk (some 3)
  (.assign (.tmp 7)) none]).seq VCode.ret)
theorem fn53 : FnOk Tryz.prog 53 8 vc53 [ResultVar.tmp 3] := ⟨Tryz.f53, _, [], Tryz.func53, rfl, rfl, rfl, by kernel_rfl, by kernel_rfl, by kernel_rfl⟩

/-- wafer/env.look[wafer/env.Typ] -/
def vc54 : VCode := (VCode.ops [VOp.mk (some 4) (.box 52 (.tmp 0)) none, VOp.mk (some 8) (.alloc 72) none, VOp.mk (some 9) (.assign (.const (.int .i64 0))) none]).seq ((VCode.ops
  [VOp.mk (some 10) (.alloc 72) none]).seq ((VCode.ops [VOp.mk (some 18) (.move (.tmp 1)) none, VOp.mk (some 19) (.call (.mk (.builtin .len) #[.tmp 18] #[35])) none, VOp.mk (some
  20) (.binOp .sub 3 (.tmp 19) (.const (.int .i64 1)) 3) none, VOp.mk (some 11) (.assign (.tmp 20)) none]).seq (((VCode.ops [VOp.mk (some 21) (.move (.tmp 11)) none, VOp.mk (some
  22) (.binOp .lss 3 (.tmp 21) (.const (.int .i64 0)) 3) none]).seq (VCode.cond (.tmp 22) ((VCode.ops [VOp.mk (some 23) (.load 72 (.tmp 10)) none, VOp.mk none (.store 72 (.tmp 8)
  (.tmp 23)) none, VOp.mk (some 9) (.assign (.const (.int .i64 21))) none]).seq VCode.ret) VCode.skip)).seq (((VCode.ops [VOp.mk (some 24) (.move (.tmp 11)) none, VOp.mk (some 25)
  (.binOp .eql 3 (.tmp 24) (.const (.int .i64 0)) 3) none]).seq (VCode.cond (.tmp 25) (((VCode.ops [VOp.mk (some 27) (.move (.tmp 2)) none, VOp.mk (some 28) (.move (.tmp 1)) none,
  VOp.mk (some 29) (.indexAddr 35 (.tmp 28) (.const (.int .i64 0))) none, VOp.mk (some 30) (.load 9 (.tmp 29)) none, VOp.mk (some 31) (.call (.mk (.value (.tmp 27)) #[.tmp 30]
  #[9])) none, VOp.mk (some 26) (.move (.tmp 31)) none, VOp.mk (some 32) (.extract (.tmp 26) 0) none, VOp.mk (some 33) (.extract (.tmp 26) 1) none, VOp.mk (some 12) (.alloc 72)
  none, VOp.mk none (.store 72 (.tmp 12) (.tmp 32)) none, VOp.mk (some 13) (.assign (.tmp 33)) none]).seq ((VCode.ops [VOp.mk (some 34) (.move (.tmp 13)) none]).seq (VCode.cond
  (.tmp 34) ((VCode.ops [VOp.mk (some 35) (.load 72 (.tmp 12)) none, VOp.mk none (.store 72 (.tmp 8) (.tmp 35)) none, VOp.mk (some 9) (.assign (.const (.int .i64 0))) none]).seq
  VCode.ret) VCode.skip))).seq ((VCode.ops [VOp.mk (some 36) (.load 72 (.tmp 10)) none, VOp.mk none (.store 72 (.tmp 8) (.tmp 36)) none, VOp.mk (some 9) (.assign (.const (.int .i64
  21))) none]).seq VCode.ret)) VCode.skip)).seq ((VCode.opsB (VBT.ro 0 (VOp.mk (some 38) (.load 52 (.tmp 4)) none) (VBT.ro 1 (VOp.mk (some 39) (.move (.tmp 1)) none) (VBT.ro 2
  (VOp.mk (some 40) (.move (.tmp 11)) none) (VBT.ro 3 (VOp.mk (some 41) (.slice 35 (.tmp 39) none (some (.tmp 40)) none) none) (VBT.alt 4 (VOp.mk (some 42) (.call (.mk (.value
  (.func 14)) #[.tmp 38, .tmp 41] #[52, 35])) none) (VBT.ro 5 (VOp.mk (some 37) (.move (.tmp 42)) none) (VBT.ro 6 (VOp.mk (some 43) (.extract (.tmp 37) 0) none) (VBT.ro 7 (VOp.mk
  (some 44) (.extract (.tmp 37) 1) none) (VBT.alt 8 (VOp.mk (some 14) (.alloc 67) none) (VBT.alt 9 (VOp.mk none (.store 67 (.tmp 14) (.tmp 43)) none) (VBT.ro 10 (VOp.mk (some 15)
  (.assign (.tmp 44)) none) VBT.leaf) VBT.no) VBT.no)))) (VBT.alt 8 (VOp.mk (some 14) (.alloc 67) none) (VBT.alt 4 (VOp.mk (some 42) (.call (.mk (.value (.func 14)) #[.tmp 38, .tmp
  41] #[52, 35])) none) (VBT.ro 5 (VOp.mk (some 37) (.move (.tmp 42)) none) (VBT.ro 6 (VOp.mk (some 43) (.extract (.tmp 37) 0) none) (VBT.ro 7 (VOp.mk (some 44) (.extract (.tmp 37)
  1) none) (VBT.alt 9 (VOp.mk none (.store 67 (.tmp 14) (.tmp 43)) none) (VBT.ro 10 (VOp.mk (some 15) (.assign (.tmp 44)) none) VBT.leaf) VBT.no)))) VBT.no) VBT.no)))))) [(8, [0,
  3])]).seq (((VCode.ops [VOp.mk (some 45) (.move (.tmp 15)) none, VOp.mk (some 46) (.binOp .neq 43 (.tmp 45) (.const (.int .i64 0)) 43) none]).seq (VCode.cond (.tmp 46) ((VCode.ops
  [VOp.mk (some 47) (.load 72 (.tmp 10)) none, VOp.mk (some 48) (.move (.tmp 15)) none, VOp.mk none (.store 72 (.tmp 8) (.tmp 47)) none, VOp.mk (some 9) (.assign (.tmp 48))
  none]).seq VCode.ret) VCode.skip)).seq (((VCode.opsB (VBT.ro 0 (VOp.mk (some 50) (.move (.tmp 3)) none) (VBT.ro 1 (VOp.mk (some 51) (.load 67 (.tmp 14)) none) (VBT.ro 2 (VOp.mk
  (some 52) (.move (.tmp 1)) none) (VBT.ro 3 (VOp.mk (some 53) (.move (.tmp 11)) none) (VBT.ro 4 (VOp.mk (some 54) (.indexAddr 35 (.tmp 52) (.tmp 53)) none) (VBT.ro 5 (VOp.mk (some
  55) (.load 9 (.tmp 54)) none) (VBT.alt 6 (VOp.mk (some 56) (.call (.mk (.value (.tmp 50)) #[.tmp 51, .tmp 55] #[67, 9])) none) (VBT.ro 7 (VOp.mk (some 49) (.move (.tmp 56)) none)
  (VBT.ro 8 (VOp.mk (some 57) (.extract (.tmp 49) 0) none) (VBT.ro 9 (VOp.mk (some 58) (.extract (.tmp 49) 1) none) (VBT.alt 10 (VOp.mk (some 16) (.alloc 72) none) (VBT.alt 11
  (VOp.mk none (.store 72 (.tmp 16) (.tmp 57)) none) (VBT.ro 12 (VOp.mk (some 17) (.assign (.tmp 58)) none) VBT.leaf) VBT.no) VBT.no)))) (VBT.alt 10 (VOp.mk (some 16) (.alloc 72)
  none) (VBT.alt 6 (VOp.mk (some 56) (.call (.mk (.value (.tmp 50)) #[.tmp 51, .tmp 55] #[67, 9])) none) (VBT.ro 7 (VOp.mk (some 49) (.move (.tmp 56)) none) (VBT.ro 8 (VOp.mk (some
  57) (.extract (.tmp 49) 0) none) (VBT.ro 9 (VOp.mk (some 58) (.extract (.tmp 49) 1) none) (VBT.alt 11 (VOp.mk none (.store 72 (.tmp 16) (.tmp 57)) none) (VBT.ro 12 (VOp.mk (some
  17) (.assign (.tmp 58)) none) VBT.leaf) VBT.no)))) VBT.no) VBT.no)))))))) [(10, [1, 4, 5])]).seq ((VCode.ops [VOp.mk (some 59) (.move (.tmp 17)) none]).seq (VCode.cond (.tmp 59)
  ((VCode.ops [VOp.mk (some 60) (.load 72 (.tmp 16)) none, VOp.mk none (.store 72 (.tmp 8) (.tmp 60)) none, VOp.mk (some 9) (.assign (.const (.int .i64 0))) none]).seq VCode.ret)
  VCode.skip))).seq ((VCode.ops [VOp.mk (some 61) (.load 72 (.tmp 10)) none, VOp.mk none (.store 72 (.tmp 8) (.tmp 61)) none, VOp.mk (some 9) (.assign (.const (.int .i64 21)))
  none]).seq VCode.ret))))))))
theorem fn54 : FnOk Tryz.prog 54 62 vc54 [ResultVar.cell 8 72, ResultVar.tmp 9] := ⟨Tryz.f54, _, [(10, [([0, 1, 2, 3, 4, 5, 6, 7, 8, 9, 10], [(8, [0, 3])]), ([0, 1, 2, 3, 8, 4, 5,
  6, 7, 9, 10], []), ([0, 1, 2, 3, 8, 4, 5, 6, 7, 9, 10], [])]), (13, [([0, 1, 2, 3, 4, 5, 6, 7, 8, 9, 10, 11, 12], [(10, [1, 4, 5])]), ([0, 1, 2, 3, 4, 5, 10, 6, 7, 8, 9, 11, 12],
  []), ([0, 1, 2, 3, 4, 5, 10, 6, 7, 8, 9, 11, 12], [])])], Tryz.func54, rfl, rfl, rfl, by kernel_rfl, by kernel_rfl, by kernel_rfl⟩

/-- (wafer/env.Env).Typ$1 -/
def vc55 : VCode := (VCode.ops [VOp.mk (some 2) (.box 9 (.tmp 0)) none, VOp.mk (some 3) (.alloc 72) none, VOp.mk (some 4) (.assign (.const (.bool false))) none]).seq ((VCode.ops
  [VOp.mk (some 5) (.fieldAddr 52 (.tmp 1) 2) none, VOp.mk (some 6) (.load 47 (.tmp 5)) none, VOp.mk (some 7) (.makeFunc (.func 57) #[] #[.tmp 2]) none, VOp.mk (some 8) (.call (.mk
  (.value (.func 56)) #[.tmp 6, .tmp 7] #[47, 148])) none, VOp.mk (some 9) (.extract (.tmp 8) 0) none, VOp.mk (some 10) (.extract (.tmp 8) 1) none, VOp.mk none (.store 72 (.tmp 3)
  (.tmp 9)) none, VOp.mk (some 4) (.assign (.tmp 10)) none]).seq VCode.ret)
theorem fn55 : FnOk Tryz.prog 55 11 vc55 [ResultVar.cell 3 72, ResultVar.tmp 4] := ⟨Tryz.f55, _, [], Tryz.func55, rfl, rfl, rfl, by kernel_rfl, by kernel_rfl, by kernel_rfl⟩

/-- wafer/env.last[wafer/env.Typ] -/
def vc56 : VCode := (VCode.ops [VOp.mk (some 3) (.box 148 (.tmp 1)) none, VOp.mk (some 4) (.alloc 72) none, VOp.mk (some 5) (.alloc 4) none]).seq (((VCode.ops [VOp.mk (some 9)
  (.move (.tmp 0)) none, VOp.mk (some 10) (.call (.mk (.value (.func 117)) #[.tmp 9] #[47])) none]).seq (VCode.block 0 (VCode.rangeF (.tmp 10) [11, 12] (VCode.ops [VOp.mk (some 7)
  (.alloc 72) none, VOp.mk none (.store 72 (.tmp 7) (.tmp 12)) none]) (VCode.block 1 ((VCode.ops [VOp.mk (some 13) (.load 148 (.tmp 3)) none, VOp.mk (some 14) (.load 72 (.tmp 7))
  none, VOp.mk (some 15) (.call (.mk (.value (.tmp 13)) #[.tmp 14] #[72])) none]).seq (VCode.cond (.tmp 15) ((VCode.ops [VOp.mk (some 16) (.load 72 (.tmp 7)) none, VOp.mk none
  (.store 72 (.tmp 4) (.tmp 16)) none, VOp.mk none (.store 4 (.tmp 5) (.const (.bool true))) none]).seq VCode.ret) VCode.skip)))))).seq ((VCode.ops [VOp.mk (some 8) (.alloc 72)
  none]).seq ((VCode.ops [VOp.mk (some 17) (.load 72 (.tmp 8)) none, VOp.mk none (.store 72 (.tmp 4) (.tmp 17)) none, VOp.mk none (.store 4 (.tmp 5) (.const (.bool false)))
  none]).seq VCode.ret)))
theorem fn56 : FnOk Tryz.prog 56 18 vc56 [ResultVar.cell 4 72, ResultVar.cell 5 4] := ⟨Tryz.f56, _, [], Tryz.func56, rfl, rfl, rfl, by kernel_rfl, by kernel_rfl, by kernel_rfl⟩

/-- (wafer/env.Env).Typ$1$1 -/
def vc57 : VCode := (VCode.ops [VOp.mk (some 2) (.box 72 (.tmp 0)) none, VOp.mk (some 3) (.assign (.const (.bool false))) none]).seq ((VCode.ops [VOp.mk (some 4) (.fieldAddr 72
  (.tmp 2) 0) none, VOp.mk (some 5) (.load 9 (.tmp 4)) none, VOp.mk (some 6) (.load 9 (.tmp 1)) none, VOp.mk (some 7) (.binOp .eql 9 (.tmp 5) (.tmp 6) 9) none, VOp.mk (some 3)
  (.assign (.tmp 7)) none]).seq VCode.ret)
theorem fn57 : FnOk Tryz.prog 57 8 vc57 [ResultVar.tmp 3] := ⟨Tryz.f57, _, [], Tryz.func57, rfl, rfl, rfl, by kernel_rfl, by kernel_rfl, by kernel_rfl⟩

/-- (wafer/env.Env).Typ$2 -/
def vc58 : VCode := (VCode.ops [VOp.mk (some 2) (.box 67 (.tmp 0)) none, VOp.mk (some 3) (.box 9 (.tmp 1)) none, VOp.mk (some 4) (.alloc 72) none, VOp.mk (some 5) (.assign (.const
  (.bool false))) none]).seq ((VCode.ops [VOp.mk (some 9) (.fieldAddr 67 (.tmp 2) 1) none, VOp.mk (some 10) (.fieldAddr 65 (.tmp 9) 0) none, VOp.mk (some 11) (.load 59 (.tmp 10))
  none, VOp.mk (some 12) (.makeFunc (.func 60) #[] #[.tmp 3]) none, VOp.mk (some 13) (.call (.mk (.value (.func 59)) #[.tmp 11, .tmp 12] #[59, 152])) none, VOp.mk (some 8) (.move
  (.tmp 13)) none, VOp.mk (some 14) (.extract (.tmp 8) 0) none, VOp.mk (some 15) (.extract (.tmp 8) 1) none, VOp.mk (some 6) (.alloc 133) none, VOp.mk none (.store 133 (.tmp 6)
  (.tmp 14)) none, VOp.mk (some 7) (.assign (.tmp 15)) none]).seq ((VCode.ops [VOp.mk (some 16) (.load 9 (.tmp 3)) none, VOp.mk (some 17) (.fieldAddr 133 (.tmp 6) 1) none, VOp.mk
  (some 18) (.load 32 (.tmp 17)) none, VOp.mk (some 19) (.fieldAddr 133 (.tmp 6) 2) none, VOp.mk (some 20) (.load 70 (.tmp 19)) none, VOp.mk (some 21) (.build 72 #[(0, .tmp 16), (1,
  .tmp 18), (2, .tmp 20)]) none, VOp.mk (some 22) (.move (.tmp 7)) none, VOp.mk none (.store 72 (.tmp 4) (.tmp 21)) none, VOp.mk (some 5) (.assign (.tmp 22)) none]).seq VCode.ret))
theorem fn58 : FnOk Tryz.prog 58 23 vc58 [ResultVar.cell 4 72, ResultVar.tmp 5] := ⟨Tryz.f58, _, [], Tryz.func58, rfl, rfl, rfl, by kernel_rfl, by kernel_rfl, by kernel_rfl⟩

/-- wafer/env.last[wafer/api.TyMember] -/
def vc59 : VCode := (VCode.ops [VOp.mk (some 3) (.box 152 (.tmp 1)) none, VOp.mk (some 4) (.alloc 133) none, VOp.mk (some 5) (.alloc 4) none]).seq (((VCode.ops [VOp.mk (some 9)
  (.move (.tmp 0)) none, VOp.mk (some 10) (.call (.mk (.value (.func 118)) #[.tmp 9] #[59])) none]).seq (VCode.block 0 (VCode.rangeF (.tmp 10) [11, 12] (VCode.ops [VOp.mk (some 7)
  (.alloc 133) none, VOp.mk none (.store 133 (.tmp 7) (.tmp 12)) none]) (VCode.block 1 ((VCode.ops [VOp.mk (some 13) (.load 152 (.tmp 3)) none, VOp.mk (some 14) (.load 133 (.tmp 7))
  none, VOp.mk (some 15) (.call (.mk (.value (.tmp 13)) #[.tmp 14] #[133])) none]).seq (VCode.cond (.tmp 15) ((VCode.ops [VOp.mk (some 16) (.load 133 (.tmp 7)) none, VOp.mk none
  (.store 133 (.tmp 4) (.tmp 16)) none, VOp.mk none (.store 4 (.tmp 5) (.const (.bool true))) none]).seq VCode.ret) VCode.skip)))))).seq ((VCode.ops [VOp.mk (some 8) (.alloc 133)
  none]).seq ((VCode.ops [VOp.mk (some 17) (.load 133 (.tmp 8)) none, VOp.mk none (.store 133 (.tmp 4) (.tmp 17)) none, VOp.mk none (.store 4 (.tmp 5) (.const (.bool false)))
  none]).seq VCode.ret)))
theorem fn59 : FnOk Tryz.prog 59 18 vc59 [ResultVar.cell 4 133, ResultVar.cell 5 4] := ⟨Tryz.f59, _, [], Tryz.func59, rfl, rfl, rfl, by kernel_rfl, by kernel_rfl, by kernel_rfl⟩

/-- (wafer/env.Env).Typ$2$1 -/
def vc60 : VCode := (VCode.ops [VOp.mk (some 2) (.box 133 (.tmp 0)) none, VOp.mk (some 3) (.assign (.const (.bool false))) none]).seq ((VCode.ops [VOp.mk (some 4) (.fieldAddr 133
  (.tmp 2) 0) none, VOp.mk (some 5) (.load 9 (.tmp 4)) none, VOp.mk (some 6) (.load 9 (.tmp 1)) none, VOp.mk (some 7) (.binOp .eql 9 (.tmp 5) (.tmp 6) 9) none, VOp.mk (some 3)
  (.assign (.tmp 7)) none]).seq VCode.ret)
theorem fn60 : FnOk Tryz.prog 60 8 vc60 [ResultVar.tmp 3] := ⟨Tryz.f60, _, [], Tryz.func60, rfl, rfl, rfl, by kernel_rfl, by kernel_rfl, by kernel_rfl⟩

/-- wafer/waferref08.Cmp -/
def vc61 : VCode := (VCode.ops [VOp.mk (some 2) (.box 32 (.tmp 0)) none, VOp.mk (some 3) (.box 32 (.tmp 1)) none, VOp.mk (some 4) (.assign (.const (.int .i64 0))) none]).seq
  (((VCode.ops [VOp.mk (some 10) (.fieldAddr 32 (.tmp 2) 0) none, VOp.mk (some 11) (.load 3 (.tmp 10)) none, VOp.mk (some 12) (.fieldAddr 32 (.tmp 3) 0) none, VOp.mk (some 13)
  (.load 3 (.tmp 12)) none, VOp.mk (some 14) (.call (.mk (.value (.func 119)) #[.tmp 11, .tmp 13] #[3, 3])) none, VOp.mk (some 5) (.assign (.tmp 14)) none]).seq ((VCode.ops [VOp.mk
  (some 15) (.move (.tmp 5)) none, VOp.mk (some 16) (.binOp .neq 3 (.tmp 15) (.const (.int .i64 0)) 3) none]).seq (VCode.cond (.tmp 16) ((VCode.ops [VOp.mk (some 17) (.move (.tmp
  5)) none, VOp.mk (some 4) (.assign (.tmp 17)) none]).seq VCode.ret) VCode.skip))).seq (((VCode.ops [VOp.mk (some 18) (.fieldAddr 32 (.tmp 2) 1) none, VOp.mk (some 19) (.load 3
  (.tmp 18)) none, VOp.mk (some 20) (.fieldAddr 32 (.tmp 3) 1) none, VOp.mk (some 21) (.load 3 (.tmp 20)) none, VOp.mk (some 22) (.call (.mk (.value (.func 119)) #[.tmp 19, .tmp 21]
  #[3, 3])) none, VOp.mk (some 6) (.assign (.tmp 22)) none]).seq ((VCode.ops [VOp.mk (some 23) (.move (.tmp 6)) none, VOp.mk (some 24) (.binOp .neq 3 (.tmp 23) (.const (.int .i64
  0)) 3) none]).seq (VCode.cond (.tmp 24) ((VCode.ops [VOp.mk (some 25) (.move (.tmp 6)) none, VOp.mk (some 4) (.assign (.tmp 25)) none]).seq VCode.ret) VCode.skip))).seq
  (((VCode.ops [VOp.mk (some 26) (.fieldAddr 32 (.tmp 2) 2) none, VOp.mk (some 27) (.load 30 (.tmp 26)) none, VOp.mk (some 28) (.call (.mk (.builtin .len) #[.tmp 27] #[30])) none,
  VOp.mk (some 29) (.fieldAddr 32 (.tmp 3) 2) none, VOp.mk (some 30) (.load 30 (.tmp 29)) none, VOp.mk (some 31) (.call (.mk (.builtin .len) #[.tmp 30] #[30])) none, VOp.mk (some
  32) (.call (.mk (.value (.func 119)) #[.tmp 28, .tmp 31] #[3, 3])) none, VOp.mk (some 7) (.assign (.tmp 32)) none]).seq ((VCode.ops [VOp.mk (some 33) (.move (.tmp 7)) none, VOp.mk
  (some 34) (.binOp .neq 3 (.tmp 33) (.const (.int .i64 0)) 3) none]).seq (VCode.cond (.tmp 34) ((VCode.ops [VOp.mk (some 35) (.move (.tmp 7)) none, VOp.mk (some 4) (.assign (.tmp
  35)) none]).seq VCode.ret) VCode.skip))).seq (((VCode.ops [VOp.mk (some 8) (.assign (.const (.int .i64 0))) none]).seq (VCode.block 0 (((VCode.ops [VOp.mk (some 36) (.move (.tmp
  8)) none, VOp.mk (some 37) (.fieldAddr 32 (.tmp 2) 2) none, VOp.mk (some 38) (.load 30 (.tmp 37)) none, VOp.mk (some 39) (.call (.mk (.builtin .len) #[.tmp 38] #[30])) none,
  VOp.mk (some 40) (.binOp .lss 3 (.tmp 36) (.tmp 39) 3) none]).seq (VCode.cond (.tmp 40) VCode.skip (VCode.exit 0))).seq ((VCode.block 1 ((VCode.ops [VOp.mk (some 43) (.fieldAddr
  32 (.tmp 2) 2) none, VOp.mk (some 44) (.load 30 (.tmp 43)) none, VOp.mk (some 45) (.move (.tmp 8)) none, VOp.mk (some 46) (.indexAddr 30 (.tmp 44) (.tmp 45)) none, VOp.mk (some
  47) (.load 32 (.tmp 46)) none, VOp.mk (some 48) (.fieldAddr 32 (.tmp 3) 2) none, VOp.mk (some 49) (.load 30 (.tmp 48)) none, VOp.mk (some 50) (.move (.tmp 8)) none, VOp.mk (some
  51) (.indexAddr 30 (.tmp 49) (.tmp 50)) none, VOp.mk (some 52) (.load 32 (.tmp 51)) none, VOp.mk (some 53) (.call (.mk (.value (.func 61)) #[.tmp 47, .tmp 52] #[32, 32])) none,
  VOp.mk (some 9) (.assign (.tmp 53)) none]).seq ((VCode.ops [VOp.mk (some 54) (.move (.tmp 9)) none, VOp.mk (some 55) (.binOp .neq 3 (.tmp 54) (.const (.int .i64 0)) 3) none]).seq
  (VCode.cond (.tmp 55) ((VCode.ops [VOp.mk (some 56) (.move (.tmp 9)) none, VOp.mk (some 4) (.assign (.tmp 56)) none]).seq VCode.ret) VCode.skip)))).seq (VCode.ops [VOp.mk (some
  41) (.move (.tmp 8)) none, VOp.mk (some 42) (.binOp .add 3 (.tmp 41) (.const (.int .i64 1)) 3) none, VOp.mk (some 8) (.assign (.tmp 42)) none]))).loop)).seq ((VCode.ops [VOp.mk
  (some 4) (.assign (.const (.int .i64 0))) none]).seq VCode.ret)))))
theorem fn61 : FnOk Tryz.prog 61 57 vc61 [ResultVar.tmp 4] := ⟨Tryz.f61, _, [], Tryz.func61, rfl, rfl, rfl, by kernel_rfl, by kernel_rfl, by kernel_rfl⟩

/-- wafer/env.look[wafer/env.Fun] -/
def vc67 : VCode := (VCode.ops [VOp.mk (some 4) (.box 52 (.tmp 0)) none, VOp.mk (some 8) (.alloc 91) none, VOp.mk (some 9) (.assign (.const (.int .i64 0))) none]).seq ((VCode.ops
  [VOp.mk (some 10) (.alloc 91) none]).seq ((VCode.ops [VOp.mk (some 18) (.move (.tmp 1)) none, VOp.mk (some 19) (.call (.mk (.builtin .len) #[.tmp 18] #[35])) none, VOp.mk (some
  20) (.binOp .sub 3 (.tmp 19) (.const (.int .i64 1)) 3) none, VOp.mk (some 11) (.assign (.tmp 20)) none]).seq (((VCode.ops [VOp.mk (some 21) (.move (.tmp 11)) none, VOp.mk (some
  22) (.binOp .lss 3 (.tmp 21) (.const (.int .i64 0)) 3) none]).seq (VCode.cond (.tmp 22) ((VCode.ops [VOp.mk (some 23) (.load 91 (.tmp 10)) none, VOp.mk none (.store 91 (.tmp 8)
  (.tmp 23)) none, VOp.mk (some 9) (.assign (.const (.int .i64 21))) none]).seq VCode.ret) VCode.skip)).seq (((VCode.ops [VOp.mk (some 24) (.move (.tmp 11)) none, VOp.mk (some 25)
  (.binOp .eql 3 (.tmp 24) (.const (.int .i64 0)) 3) none]).seq (VCode.cond (.tmp 25) (((VCode.ops [VOp.mk (some 27) (.move (.tmp 2)) none, VOp.mk (some 28) (.move (.tmp 1)) none,
  VOp.mk (some 29) (.indexAddr 35 (.tmp 28) (.const (.int .i64 0))) none, VOp.mk (some 30) (.load 9 (.tmp 29)) none, VOp.mk (some 31) (.call (.mk (.value (.tmp 27)) #[.tmp 30]
  #[9])) none, VOp.mk (some 26) (.move (.tmp 31)) none, VOp.mk (some 32) (.extract (.tmp 26) 0) none, VOp.mk (some 33) (.extract (.tmp 26) 1) none, VOp.mk (some 12) (.alloc 91)
  none, VOp.mk none (.store 91 (.tmp 12) (.tmp 32)) none, VOp.mk (some 13) (.assign (.tmp 33)) none]).seq ((VCode.ops [VOp.mk (some 34) (.move (.tmp 13)) none]).seq (VCode.cond
  (.tmp 34) ((VCode.ops [VOp.mk (some 35) (.load 91 (.tmp 12)) none, VOp.mk none (.store 91 (.tmp 8) (.tmp 35)) none, VOp.mk (some 9) (.assign (.const (.int .i64 0))) none]).seq
  VCode.ret) VCode.skip))).seq ((VCode.ops [VOp.mk (some 36) (.load 91 (.tmp 10)) none, VOp.mk none (.store 91 (.tmp 8) (.tmp 36)) none, VOp.mk (some 9) (.assign (.const (.int .i64
  21))) none]).seq VCode.ret)) VCode.skip)).seq ((VCode.opsB (VBT.ro 0 (VOp.mk (some 38) (.load 52 (.tmp 4)) none) (VBT.ro 1 (VOp.mk (some 39) (.move (.tmp 1)) none) (VBT.ro 2
  (VOp.mk (some 40) (.move (.tmp 11)) none) (VBT.ro 3 (VOp.mk (some 41) (.slice 35 (.tmp 39) none (some (.tmp 40)) none) none) (VBT.alt 4 (VOp.mk (some 42) (.call (.mk (.value
  (.func 14)) #[.tmp 38, .tmp 41] #[52, 35])) none) (VBT.ro 5 (VOp.mk (some 37) (.move (.tmp 42)) none) (VBT.ro 6 (VOp.mk (some 43) (.extract (.tmp 37) 0) none) (VBT.ro 7 (VOp.mk
  (some 44) (.extract (.tmp 37) 1) none) (VBT.alt 8 (VOp.mk (some 14) (.alloc 67) none) (VBT.alt 9 (VOp.mk none (.store 67 (.tmp 14) (.tmp 43)) none) (VBT.ro 10 (VOp.mk (some 15)
  (.assign (.tmp 44)) none) VBT.leaf) VBT.no) VBT.no)))) (VBT.alt 8 (VOp.mk (some 14) (.alloc 67) none) (VBT.alt 4 (VOp.mk (some 42) (.call (.mk (.value (.func 14)) #[.tmp 38, .tmp
  41] #[52, 35])) none) (VBT.ro 5 (VOp.mk (some 37) (.move (.tmp 42)) none) (VBT.ro 6 (VOp.mk (some 43) (.extract (.tmp 37) 0) none) (VBT.ro 7 (VOp.mk (some 44) (.extract (.tmp 37)
  1) none) (VBT.alt 9 (VOp.mk none (.store 67 (.tmp 14) (.tmp 43)) none) (VBT.ro 10 (VOp.mk (some 15) (.assign (.tmp 44)) none) VBT.leaf) VBT.no)))) VBT.no) VBT.no)))))) [(8, [0,
  3])]).seq (((VCode.ops [VOp.mk (some 45) (.move (.tmp 15)) none, VOp.mk (some 46) (.binOp .neq 43 (.tmp 45) (.const (.int .i64 0)) 43) none]).seq (VCode.cond (.tmp 46) ((VCode.ops
  [VOp.mk (some 47) (.load 91 (.tmp 10)) none, VOp.mk (some 48) (.move (.tmp 15)) none, VOp.mk none (.store 91 (.tmp 8) (.tmp 47)) none, VOp.mk (some 9) (.assign (.tmp 48))
  none]).seq VCode.ret) VCode.skip)).seq (((VCode.opsB (VBT.ro 0 (VOp.mk (some 50) (.move (.tmp 3)) none) (VBT.ro 1 (VOp.mk (some 51) (.load 67 (.tmp 14)) none) (VBT.ro 2 (VOp.mk
  (some 52) (.move (.tmp 1)) none) (VBT.ro 3 (VOp.mk (some 53) (.move (.tmp 11)) none) (VBT.ro 4 (VOp.mk (some 54) (.indexAddr 35 (.tmp 52) (.tmp 53)) none) (VBT.ro 5 (VOp.mk (some
  55) (.load 9 (.tmp 54)) none) (VBT.alt 6 (VOp.mk (some 56) (.call (.mk (.value (.tmp 50)) #[.tmp 51, .tmp 55] #[67, 9])) none) (VBT.ro 7 (VOp.mk (some 49) (.move (.tmp 56)) none)
  (VBT.ro 8 (VOp.mk (some 57) (.extract (.tmp 49) 0) none) (VBT.ro 9 (VOp.mk (some 58) (.extract (.tmp 49) 1) none) (VBT.alt 10 (VOp.mk (some 16) (.alloc 91) none) (VBT.alt 11
  (VOp.mk none (.store 91 (.tmp 16) (.tmp 57)) none) (VBT.ro 12 (VOp.mk (some 17) (.assign (.tmp 58)) none) VBT.leaf) VBT.no) VBT.no)))) (VBT.alt 10 (VOp.mk (some 16) (.alloc 91)
  none) (VBT.alt 6 (VOp.mk (some 56) (.call (.mk (.value (.tmp 50)) #[.tmp 51, .tmp 55] #[67, 9])) none) (VBT.ro 7 (VOp.mk (some 49) (.move (.tmp 56)) none) (VBT.ro 8 (VOp.mk (some
  57) (.extract (.tmp 49) 0) none) (VBT.ro 9 (VOp.mk (some 58) (.extract (.tmp 49) 1) none) (VBT.alt 11 (VOp.mk none (.store 91 (.tmp 16) (.tmp 57)) none) (VBT.ro 12 (VOp.mk (some
  17) (.assign (.tmp 58)) none) VBT.leaf) VBT.no)))) VBT.no) VBT.no)))))))) [(10, [1, 4, 5])]).seq ((VCode.ops [VOp.mk (some 59) (.move (.tmp 17)) none]).seq (VCode.cond (.tmp 59)
  ((VCode.ops [VOp.mk (some 60) (.load 91 (.tmp 16)) none, VOp.mk none (.store 91 (.tmp 8) (.tmp 60)) none, VOp.mk (some 9) (.assign (.const (.int .i64 0))) none]).seq VCode.ret)
  VCode.skip))).seq ((VCode.ops [VOp.mk (some 61) (.load 91 (.tmp 10)) none, VOp.mk none (.store 91 (.tmp 8) (.tmp 61)) none, VOp.mk (some 9) (.assign (.const (.int .i64 21)))
  none]).seq VCode.ret))))))))
theorem fn67 : FnOk Tryz.prog 67 62 vc67 [ResultVar.cell 8 91, ResultVar.tmp 9] := ⟨Tryz.f67, _, [(10, [([0, 1, 2, 3, 4, 5, 6, 7, 8, 9, 10], [(8, [0, 3])]), ([0, 1, 2, 3, 8, 4, 5,
  6, 7, 9, 10], []), ([0, 1, 2, 3, 8, 4, 5, 6, 7, 9, 10], [])]), (13, [([0, 1, 2, 3, 4, 5, 6, 7, 8, 9, 10, 11, 12], [(10, [1, 4, 5])]), ([0, 1, 2, 3, 4, 5, 10, 6, 7, 8, 9, 11, 12],
  []), ([0, 1, 2, 3, 4, 5, 10, 6, 7, 8, 9, 11, 12], [])])], Tryz.func67, rfl, rfl, rfl, by kernel_rfl, by kernel_rfl, by kernel_rfl⟩

/-- (wafer/env.Env).Fun$1 -/
def vc68 : VCode := (VCode.ops [VOp.mk (some 2) (.box 9 (.tmp 0)) none, VOp.mk (some 3) (.alloc 91) none, VOp.mk (some 4) (.assign (.const (.bool false))) none]).seq ((VCode.ops
  [VOp.mk (some 5) (.fieldAddr 52 (.tmp 1) 4) none, VOp.mk (some 6) (.load 49 (.tmp 5)) none, VOp.mk (some 7) (.makeFunc (.func 70) #[] #[.tmp 2]) none, VOp.mk (some 8) (.call (.mk
  (.value (.func 69)) #[.tmp 6, .tmp 7] #[49, 166])) none, VOp.mk (some 9) (.extract (.tmp 8) 0) none, VOp.mk (some 10) (.extract (.tmp 8) 1) none, VOp.mk none (.store 91 (.tmp 3)
  (.tmp 9)) none, VOp.mk (some 4) (.assign (.tmp 10)) none]).seq VCode.ret)
theorem fn68 : FnOk Tryz.prog 68 11 vc68 [ResultVar.cell 3 91, ResultVar.tmp 4] := ⟨Tryz.f68, _, [], Tryz.func68, rfl, rfl, rfl, by kernel_rfl, by kernel_rfl, by kernel_rfl⟩

/-- wafer/env.last[wafer/env.Fun] -/
def vc69 : VCode := (VCode.ops [VOp.mk (some 3) (.box 166 (.tmp 1)) none, VOp.mk (some 4) (.alloc 91) none, VOp.mk (some 5) (.alloc 4) none]).seq (((VCode.ops [VOp.mk (some 9)
  (.move (.tmp 0)) none, VOp.mk (some 10) (.call (.mk (.value (.func 120)) #[.tmp 9] #[49])) none]).seq (VCode.block 0 (VCode.rangeF (.tmp 10) [11, 12] (VCode.ops [VOp.mk (some 7)
  (.alloc 91) none, VOp.mk none (.store 91 (.tmp 7) (.tmp 12)) none]) (VCode.block 1 ((VCode.ops [VOp.mk (some 13) (.load 166 (.tmp 3)) none, VOp.mk (some 14) (.load 91 (.tmp 7))
  none, VOp.mk (some 15) (.call (.mk (.value (.tmp 13)) #[.tmp 14] #[91])) none]).seq (VCode.cond (.tmp 15) ((VCode.ops [VOp.mk (some 16) (.load 91 (.tmp 7)) none, VOp.mk none
  (.store 91 (.tmp 4) (.tmp 16)) none, VOp.mk none (.store 4 (.tmp 5) (.const (.bool true))) none]).seq VCode.ret) VCode.skip)))))).seq ((VCode.ops [VOp.mk (some 8) (.alloc 91)
  none]).seq ((VCode.ops [VOp.mk (some 17) (.load 91 (.tmp 8)) none, VOp.mk none (.store 91 (.tmp 4) (.tmp 17)) none, VOp.mk none (.store 4 (.tmp 5) (.const (.bool false)))
  none]).seq VCode.ret)))
theorem fn69 : FnOk Tryz.prog 69 18 vc69 [ResultVar.cell 4 91, ResultVar.cell 5 4] := ⟨Tryz.f69, _, [], Tryz.func69, rfl, rfl, rfl, by kernel_rfl, by kernel_rfl, by kernel_rfl⟩

/-- (wafer/env.Env).Fun$1$1 -/
def vc70 : VCode := (VCode.ops [VOp.mk (some 2) (.box 91 (.tmp 0)) none, VOp.mk (some 3) (.assign (.const (.bool false))) none]).seq ((VCode.ops [VOp.mk (some 4) (.fieldAddr 91
  (.tmp 2) 0) none, VOp.mk (some 5) (.load 9 (.tmp 4)) none, VOp.mk (some 6) (.load 9 (.tmp 1)) none, VOp.mk (some 7) (.binOp .eql 9 (.tmp 5) (.tmp 6) 9) none, VOp.mk (some 3)
  (.assign (.tmp 7)) none]).seq VCode.ret)
theorem fn70 : FnOk Tryz.prog 70 8 vc70 [ResultVar.tmp 3] := ⟨Tryz.f70, _, [], Tryz.func70, rfl, rfl, rfl, by kernel_rfl, by kernel_rfl, by kernel_rfl⟩

/-- (wafer/env.Env).Fun$2 -/
def vc71 : VCode := (VCode.ops [VOp.mk (some 2) (.box 67 (.tmp 0)) none, VOp.mk (some 3) (.box 9 (.tmp 1)) none, VOp.mk (some 4) (.alloc 91) none, VOp.mk (some 5) (.assign (.const
  (.bool false))) none]).seq ((VCode.ops [VOp.mk (some 9) (.fieldAddr 67 (.tmp 2) 1) none, VOp.mk (some 10) (.fieldAddr 65 (.tmp 9) 3) none, VOp.mk (some 11) (.load 62 (.tmp 10))
  none, VOp.mk (some 12) (.makeFunc (.func 73) #[] #[.tmp 3]) none, VOp.mk (some 13) (.call (.mk (.value (.func 72)) #[.tmp 11, .tmp 12] #[62, 170])) none, VOp.mk (some 8) (.move
  (.tmp 13)) none, VOp.mk (some 14) (.extract (.tmp 8) 0) none, VOp.mk (some 15) (.extract (.tmp 8) 1) none, VOp.mk (some 6) (.alloc 161) none, VOp.mk none (.store 161 (.tmp 6)
  (.tmp 14)) none, VOp.mk (some 7) (.assign (.tmp 15)) none]).seq ((VCode.opsW [(0, VOp.mk (some 16) (.load 9 (.tmp 3)) none), (1, VOp.mk (some 17) (.fieldAddr 161 (.tmp 6) 1)
  none), (2, VOp.mk (some 18) (.load 89 (.tmp 17)) none), (3, VOp.mk (some 19) (.load 9 (.tmp 3)) none), (4, VOp.mk (some 20) (.fieldAddr 67 (.tmp 2) 2) none), (5, VOp.mk (some 21)
  (.load 39 (.tmp 20)) none), (8, VOp.mk (some 24) (.move (.tmp 7)) none), (6, VOp.mk (some 22) (.call (.mk (.value (.func 44)) #[.tmp 19, .tmp 21] #[9, 39])) none), (7, VOp.mk
  (some 23) (.build 91 #[(0, .tmp 16), (1, .tmp 18), (2, .tmp 22)]) none), (9, VOp.mk none (.store 91 (.tmp 4) (.tmp 23)) none), (10, VOp.mk (some 5) (.assign (.tmp 24)) none)] [(6,
  [0, 1, 2])]).seq VCode.ret))
theorem fn71 : FnOk Tryz.prog 71 25 vc71 [ResultVar.cell 4 91, ResultVar.tmp 5] := ⟨Tryz.f71, _, [(2, [([0, 1, 2, 3, 4, 5, 8, 6, 7, 9, 10], [(6, [0, 1, 2])])])], Tryz.func71, rfl,
  rfl, rfl, by kernel_rfl, by kernel_rfl, by kernel_rfl⟩

/-- wafer/env.last[wafer/api.FunMember] -/
def vc72 : VCode := (VCode.ops [VOp.mk (some 3) (.box 170 (.tmp 1)) none, VOp.mk (some 4) (.alloc 161) none, VOp.mk (some 5) (.alloc 4) none]).seq (((VCode.ops [VOp.mk (some 9)
  (.move (.tmp 0)) none, VOp.mk (some 10) (.call (.mk (.value (.func 121)) #[.tmp 9] #[62])) none]).seq (VCode.block 0 (VCode.rangeF (.tmp 10) [11, 12] (VCode.ops [VOp.mk (some 7)
  (.alloc 161) none, VOp.mk none (.store 161 (.tmp 7) (.tmp 12)) none]) (VCode.block 1 ((VCode.ops [VOp.mk (some 13) (.load 170 (.tmp 3)) none, VOp.mk (some 14) (.load 161 (.tmp 7))
  none, VOp.mk (some 15) (.call (.mk (.value (.tmp 13)) #[.tmp 14] #[161])) none]).seq (VCode.cond (.tmp 15) ((VCode.ops [VOp.mk (some 16) (.load 161 (.tmp 7)) none, VOp.mk none
  (.store 161 (.tmp 4) (.tmp 16)) none, VOp.mk none (.store 4 (.tmp 5) (.const (.bool true))) none]).seq VCode.ret) VCode.skip)))))).seq ((VCode.ops [VOp.mk (some 8) (.alloc 161)
  none]).seq ((VCode.ops [VOp.mk (some 17) (.load 161 (.tmp 8)) none, VOp.mk none (.store 161 (.tmp 4) (.tmp 17)) none, VOp.mk none (.store 4 (.tmp 5) (.const (.bool false)))
  none]).seq VCode.ret)))
theorem fn72 : FnOk Tryz.prog 72 18 vc72 [ResultVar.cell 4 161, ResultVar.cell 5 4] := ⟨Tryz.f72, _, [], Tryz.func72, rfl, rfl, rfl, by kernel_rfl, by kernel_rfl, by kernel_rfl⟩

/-- (wafer/env.Env).Fun$2$1 -/
def vc73 : VCode := (VCode.ops [VOp.mk (some 2) (.box 161 (.tmp 0)) none, VOp.mk (some 3) (.assign (.const (.bool false))) none]).seq ((VCode.ops [VOp.mk (some 4) (.fieldAddr 161
  (.tmp 2) 0) none, VOp.mk (some 5) (.load 9 (.tmp 4)) none, VOp.mk (some 6) (.load 9 (.tmp 1)) none, VOp.mk (some 7) (.binOp .eql 9 (.tmp 5) (.tmp 6) 9) none, VOp.mk (some 3)
  (.assign (.tmp 7)) none]).seq VCode.ret)
theorem fn73 : FnOk Tryz.prog 73 8 vc73 [ResultVar.tmp 3] := ⟨Tryz.f73, _, [], Tryz.func73, rfl, rfl, rfl, by kernel_rfl, by kernel_rfl, by kernel_rfl⟩

/-- wafer/env.look[wafer/env.Sig] -/
def vc74 : VCode := (VCode.ops [VOp.mk (some 4) (.box 52 (.tmp 0)) none, VOp.mk (some 8) (.alloc 100) none, VOp.mk (some 9) (.assign (.const (.int .i64 0))) none]).seq ((VCode.ops
  [VOp.mk (some 10) (.alloc 100) none]).seq ((VCode.ops [VOp.mk (some 18) (.move (.tmp 1)) none, VOp.mk (some 19) (.call (.mk (.builtin .len) #[.tmp 18] #[35])) none, VOp.mk (some
  20) (.binOp .sub 3 (.tmp 19) (.const (.int .i64 1)) 3) none, VOp.mk (some 11) (.assign (.tmp 20)) none]).seq (((VCode.ops [VOp.mk (some 21) (.move (.tmp 11)) none, VOp.mk (some
  22) (.binOp .lss 3 (.tmp 21) (.const (.int .i64 0)) 3) none]).seq (VCode.cond (.tmp 22) ((VCode.ops [VOp.mk (some 23) (.load 100 (.tmp 10)) none, VOp.mk none (.store 100 (.tmp 8)
  (.tmp 23)) none, VOp.mk (some 9) (.assign (.const (.int .i64 21))) none]).seq VCode.ret) VCode.skip)).seq (((VCode.ops [VOp.mk (some 24) (.move (.tmp 11)) none, VOp.mk (some 25)
  (.binOp .eql 3 (.tmp 24) (.const (.int .i64 0)) 3) none]).seq (VCode.cond (.tmp 25) (((VCode.ops [VOp.mk (some 27) (.move (.tmp 2)) none, VOp.mk (some 28) (.move (.tmp 1)) none,
  VOp.mk (some 29) (.indexAddr 35 (.tmp 28) (.const (.int .i64 0))) none, VOp.mk (some 30) (.load 9 (.tmp 29)) none, VOp.mk (some 31) (.call (.mk (.value (.tmp 27)) #[.tmp 30]
  #[9])) none, VOp.mk (some 26) (.move (.tmp 31)) none, VOp.mk (some 32) (.extract (.tmp 26) 0) none, VOp.mk (some 33) (.extract (.tmp 26) 1) none, VOp.mk (some 12) (.alloc 100)
  none, VOp.mk none (.store 100 (.tmp 12) (.tmp 32)) none, VOp.mk (some 13) (.assign (.tmp 33)) none]).seq ((VCode.ops [VOp.mk (some 34) (.move (.tmp 13)) none]).seq (VCode.cond
  (.tmp 34) ((VCode.ops [VOp.mk (some 35) (.load 100 (.tmp 12)) none, VOp.mk none (.store 100 (.tmp 8) (.tmp 35)) none, VOp.mk (some 9) (.assign (.const (.int .i64 0))) none]).seq
  VCode.ret) VCode.skip))).seq ((VCode.ops [VOp.mk (some 36) (.load 100 (.tmp 10)) none, VOp.mk none (.store 100 (.tmp 8) (.tmp 36)) none, VOp.mk (some 9) (.assign (.const (.int
  .i64 21))) none]).seq VCode.ret)) VCode.skip)).seq ((VCode.opsB (VBT.ro 0 (VOp.mk (some 38) (.load 52 (.tmp 4)) none) (VBT.ro 1 (VOp.mk (some 39) (.move (.tmp 1)) none) (VBT.ro 2
  (VOp.mk (some 40) (.move (.tmp 11)) none) (VBT.ro 3 (VOp.mk (some 41) (.slice 35 (.tmp 39) none (some (.tmp 40)) none) none) (VBT.alt 4 (VOp.mk (some 42) (.call (.mk (.value
  (.func 14)) #[.tmp 38, .tmp 41] #[52, 35])) none) (VBT.ro 5 (VOp.mk (some 37) (.move (.tmp 42)) none) (VBT.ro 6 (VOp.mk (some 43) (.extract (.tmp 37) 0) none) (VBT.ro 7 (VOp.mk
  (some 44) (.extract (.tmp 37) 1) none) (VBT.alt 8 (VOp.mk (some 14) (.alloc 67) none) (VBT.alt 9 (VOp.mk none (.store 67 (.tmp 14) (.tmp 43)) none) (VBT.ro 10 (VOp.mk (some 15)
  (.assign (.tmp 44)) none) VBT.leaf) VBT.no) VBT.no)))) (VBT.alt 8 (VOp.mk (some 14) (.alloc 67) none) (VBT.alt 4 (VOp.mk (some 42) (.call (.mk (.value (.func 14)) #[.tmp 38, .tmp
  41] #[52, 35])) none) (VBT.ro 5 (VOp.mk (some 37) (.move (.tmp 42)) none) (VBT.ro 6 (VOp.mk (some 43) (.extract (.tmp 37) 0) none) (VBT.ro 7 (VOp.mk (some 44) (.extract (.tmp 37)
  1) none) (VBT.alt 9 (VOp.mk none (.store 67 (.tmp 14) (.tmp 43)) none) (VBT.ro 10 (VOp.mk (some 15) (.assign (.tmp 44)) none) VBT.leaf) VBT.no)))) VBT.no) VBT.no)))))) [(8, [0,
  3])]).seq (((VCode.ops [VOp.mk (some 45) (.move (.tmp 15)) none, VOp.mk (some 46) (.binOp .neq 43 (.tmp 45) (.const (.int .i64 0)) 43) none]).seq (VCode.cond (.tmp 46) ((VCode.ops
  [VOp.mk (some 47) (.load 100 (.tmp 10)) none, VOp.mk (some 48) (.move (.tmp 15)) none, VOp.mk none (.store 100 (.tmp 8) (.tmp 47)) none, VOp.mk (some 9) (.assign (.tmp 48))
  none]).seq VCode.ret) VCode.skip)).seq (((VCode.opsB (VBT.ro 0 (VOp.mk (some 50) (.move (.tmp 3)) none) (VBT.ro 1 (VOp.mk (some 51) (.load 67 (.tmp 14)) none) (VBT.ro 2 (VOp.mk
  (some 52) (.move (.tmp 1)) none) (VBT.ro 3 (VOp.mk (some 53) (.move (.tmp 11)) none) (VBT.ro 4 (VOp.mk (some 54) (.indexAddr 35 (.tmp 52) (.tmp 53)) none) (VBT.ro 5 (VOp.mk (some
  55) (.load 9 (.tmp 54)) none) (VBT.alt 6 (VOp.mk (some 56) (.call (.mk (.value (.tmp 50)) #[.tmp 51, .tmp 55] #[67, 9])) none) (VBT.ro 7 (VOp.mk (some 49) (.move (.tmp 56)) none)
  (VBT.ro 8 (VOp.mk (some 57) (.extract (.tmp 49) 0) none) (VBT.ro 9 (VOp.mk (some 58) (.extract (.tmp 49) 1) none) (VBT.alt 10 (VOp.mk (some 16) (.alloc 100) none) (VBT.alt 11
  (VOp.mk none (.store 100 (.tmp 16) (.tmp 57)) none) (VBT.ro 12 (VOp.mk (some 17) (.assign (.tmp 58)) none) VBT.leaf) VBT.no) VBT.no)))) (VBT.alt 10 (VOp.mk (some 16) (.alloc 100)
  none) (VBT.alt 6 (VOp.mk (some 56) (.call (.mk (.value (.tmp 50)) #[.tmp 51, .tmp 55] #[67, 9])) none) (VBT.ro 7 (VOp.mk (some 49) (.move (.tmp 56)) none) (VBT.ro 8 (VOp.mk (some
  57) (.extract (.tmp 49) 0) none) (VBT.ro 9 (VOp.mk (some 58) (.extract (.tmp 49) 1) none) (VBT.alt 11 (VOp.mk none (.store 100 (.tmp 16) (.tmp 57)) none) (VBT.ro 12 (VOp.mk (some
  17) (.assign (.tmp 58)) none) VBT.leaf) VBT.no)))) VBT.no) VBT.no)))))))) [(10, [1, 4, 5])]).seq ((VCode.ops [VOp.mk (some 59) (.move (.tmp 17)) none]).seq (VCode.cond (.tmp 59)
  ((VCode.ops [VOp.mk (some 60) (.load 100 (.tmp 16)) none, VOp.mk none (.store 100 (.tmp 8) (.tmp 60)) none, VOp.mk (some 9) (.assign (.const (.int .i64 0))) none]).seq VCode.ret)
  VCode.skip))).seq ((VCode.ops [VOp.mk (some 61) (.load 100 (.tmp 10)) none, VOp.mk none (.store 100 (.tmp 8) (.tmp 61)) none, VOp.mk (some 9) (.assign (.const (.int .i64 21)))
  none]).seq VCode.ret))))))))
theorem fn74 : FnOk Tryz.prog 74 62 vc74 [ResultVar.cell 8 100, ResultVar.tmp 9] := ⟨Tryz.f74, _, [(10, [([0, 1, 2, 3, 4, 5, 6, 7, 8, 9, 10], [(8, [0, 3])]), ([0, 1, 2, 3, 8, 4, 5,
  6, 7, 9, 10], []), ([0, 1, 2, 3, 8, 4, 5, 6, 7, 9, 10], [])]), (13, [([0, 1, 2, 3, 4, 5, 6, 7, 8, 9, 10, 11, 12], [(10, [1, 4, 5])]), ([0, 1, 2, 3, 4, 5, 10, 6, 7, 8, 9, 11, 12],
  []), ([0, 1, 2, 3, 4, 5, 10, 6, 7, 8, 9, 11, 12], [])])], Tryz.func74, rfl, rfl, rfl, by kernel_rfl, by kernel_rfl, by kernel_rfl⟩

/-- (wafer/env.Env).Sig$1 -/
def vc75 : VCode := (VCode.ops [VOp.mk (some 2) (.box 9 (.tmp 0)) none, VOp.mk (some 3) (.alloc 100) none, VOp.mk (some 4) (.assign (.const (.bool false))) none]).seq ((VCode.ops
  [VOp.mk (some 5) (.fieldAddr 52 (.tmp 1) 5) none, VOp.mk (some 6) (.load 50 (.tmp 5)) none, VOp.mk (some 7) (.makeFunc (.func 77) #[] #[.tmp 2]) none, VOp.mk (some 8) (.call (.mk
  (.value (.func 76)) #[.tmp 6, .tmp 7] #[50, 175])) none, VOp.mk (some 9) (.extract (.tmp 8) 0) none, VOp.mk (some 10) (.extract (.tmp 8) 1) none, VOp.mk none (.store 100 (.tmp 3)
  (.tmp 9)) none, VOp.mk (some 4) (.assign (.tmp 10)) none]).seq VCode.ret)
theorem fn75 : FnOk Tryz.prog 75 11 vc75 [ResultVar.cell 3 100, ResultVar.tmp 4] := ⟨Tryz.f75, _, [], Tryz.func75, rfl, rfl, rfl, by kernel_rfl, by kernel_rfl, by kernel_rfl⟩

/-- wafer/env.last[wafer/env.Sig] -/
def vc76 : VCode := (VCode.ops [VOp.mk (some 3) (.box 175 (.tmp 1)) none, VOp.mk (some 4) (.alloc 100) none, VOp.mk (some 5) (.alloc 4) none]).seq (((VCode.ops [VOp.mk (some 9)
  (.move (.tmp 0)) none, VOp.mk (some 10) (.call (.mk (.value (.func 122)) #[.tmp 9] #[50])) none]).seq (VCode.block 0 (VCode.rangeF (.tmp 10) [11, 12] (VCode.ops [VOp.mk (some 7)
  (.alloc 100) none, VOp.mk none (.store 100 (.tmp 7) (.tmp 12)) none]) (VCode.block 1 ((VCode.ops [VOp.mk (some 13) (.load 175 (.tmp 3)) none, VOp.mk (some 14) (.load 100 (.tmp 7))
  none, VOp.mk (some 15) (.call (.mk (.value (.tmp 13)) #[.tmp 14] #[100])) none]).seq (VCode.cond (.tmp 15) ((VCode.ops [VOp.mk (some 16) (.load 100 (.tmp 7)) none, VOp.mk none
  (.store 100 (.tmp 4) (.tmp 16)) none, VOp.mk none (.store 4 (.tmp 5) (.const (.bool true))) none]).seq VCode.ret) VCode.skip)))))).seq ((VCode.ops [VOp.mk (some 8) (.alloc 100)
  none]).seq ((VCode.ops [VOp.mk (some 17) (.load 100 (.tmp 8)) none, VOp.mk none (.store 100 (.tmp 4) (.tmp 17)) none, VOp.mk none (.store 4 (.tmp 5) (.const (.bool false)))
  none]).seq VCode.ret)))
theorem fn76 : FnOk Tryz.prog 76 18 vc76 [ResultVar.cell 4 100, ResultVar.cell 5 4] := ⟨Tryz.f76, _, [], Tryz.func76, rfl, rfl, rfl, by kernel_rfl, by kernel_rfl, by kernel_rfl⟩

/-- (wafer/env.Env).Sig$1$1 -/
def vc77 : VCode := (VCode.ops [VOp.mk (some 2) (.box 100 (.tmp 0)) none, VOp.mk (some 3) (.assign (.const (.bool false))) none]).seq ((VCode.ops [VOp.mk (some 4) (.fieldAddr 100
  (.tmp 2) 0) none, VOp.mk (some 5) (.load 9 (.tmp 4)) none, VOp.mk (some 6) (.load 9 (.tmp 1)) none, VOp.mk (some 7) (.binOp .eql 9 (.tmp 5) (.tmp 6) 9) none, VOp.mk (some 3)
  (.assign (.tmp 7)) none]).seq VCode.ret)
theorem fn77 : FnOk Tryz.prog 77 8 vc77 [ResultVar.tmp 3] := ⟨Tryz.f77, _, [], Tryz.func77, rfl, rfl, rfl, by kernel_rfl, by kernel_rfl, by kernel_rfl⟩

/-- (wafer/env.Env).Sig$2 -/
def vc78 : VCode := (VCode.ops [VOp.mk (some 2) (.box 67 (.tmp 0)) none, VOp.mk (some 3) (.box 9 (.tmp 1)) none, VOp.mk (some 4) (.alloc 100) none, VOp.mk (some 5) (.assign (.const
  (.bool false))) none]).seq ((VCode.ops [VOp.mk (some 9) (.fieldAddr 67 (.tmp 2) 1) none, VOp.mk (some 10) (.fieldAddr 65 (.tmp 9) 4) none, VOp.mk (some 11) (.load 63 (.tmp 10))
  none, VOp.mk (some 12) (.makeFunc (.func 80) #[] #[.tmp 3]) none, VOp.mk (some 13) (.call (.mk (.value (.func 79)) #[.tmp 11, .tmp 12] #[63, 179])) none, VOp.mk (some 8) (.move
  (.tmp 13)) none, VOp.mk (some 14) (.extract (.tmp 8) 0) none, VOp.mk (some 15) (.extract (.tmp 8) 1) none, VOp.mk (some 6) (.alloc 162) none, VOp.mk none (.store 162 (.tmp 6)
  (.tmp 14)) none, VOp.mk (some 7) (.assign (.tmp 15)) none]).seq ((VCode.ops [VOp.mk (some 16) (.load 9 (.tmp 3)) none, VOp.mk (some 17) (.fieldAddr 162 (.tmp 6) 1) none, VOp.mk
  (some 18) (.load 87 (.tmp 17)) none, VOp.mk (some 19) (.build 100 #[(0, .tmp 16), (1, .tmp 18)]) none, VOp.mk (some 20) (.move (.tmp 7)) none, VOp.mk none (.store 100 (.tmp 4)
  (.tmp 19)) none, VOp.mk (some 5) (.assign (.tmp 20)) none]).seq VCode.ret))
theorem fn78 : FnOk Tryz.prog 78 21 vc78 [ResultVar.cell 4 100, ResultVar.tmp 5] := ⟨Tryz.f78, _, [], Tryz.func78, rfl, rfl, rfl, by kernel_rfl, by kernel_rfl, by kernel_rfl⟩

/-- wafer/env.last[wafer/api.SigMember] -/
def vc79 : VCode := (VCode.ops [VOp.mk (some 3) (.box 179 (.tmp 1)) none, VOp.mk (some 4) (.alloc 162) none, VOp.mk (some 5) (.alloc 4) none]).seq (((VCode.ops [VOp.mk (some 9)
  (.move (.tmp 0)) none, VOp.mk (some 10) (.call (.mk (.value (.func 123)) #[.tmp 9] #[63])) none]).seq (VCode.block 0 (VCode.rangeF (.tmp 10) [11, 12] (VCode.ops [VOp.mk (some 7)
  (.alloc 162) none, VOp.mk none (.store 162 (.tmp 7) (.tmp 12)) none]) (VCode.block 1 ((VCode.ops [VOp.mk (some 13) (.load 179 (.tmp 3)) none, VOp.mk (some 14) (.load 162 (.tmp 7))
  none, VOp.mk (some 15) (.call (.mk (.value (.tmp 13)) #[.tmp 14] #[162])) none]).seq (VCode.cond (.tmp 15) ((VCode.ops [VOp.mk (some 16) (.load 162 (.tmp 7)) none, VOp.mk none
  (.store 162 (.tmp 4) (.tmp 16)) none, VOp.mk none (.store 4 (.tmp 5) (.const (.bool true))) none]).seq VCode.ret) VCode.skip)))))).seq ((VCode.ops [VOp.mk (some 8) (.alloc 162)
  none]).seq ((VCode.ops [VOp.mk (some 17) (.load 162 (.tmp 8)) none, VOp.mk none (.store 162 (.tmp 4) (.tmp 17)) none, VOp.mk none (.store 4 (.tmp 5) (.const (.bool false)))
  none]).seq VCode.ret)))
theorem fn79 : FnOk Tryz.prog 79 18 vc79 [ResultVar.cell 4 162, ResultVar.cell 5 4] := ⟨Tryz.f79, _, [], Tryz.func79, rfl, rfl, rfl, by kernel_rfl, by kernel_rfl, by kernel_rfl⟩

/-- (wafer/env.Env).Sig$2$1 -/
def vc80 : VCode := (VCode.ops [VOp.mk (some 2) (.box 162 (.tmp 0)) none, VOp.mk (some 3) (.assign (.const (.bool false))) none]).seq ((VCode.ops [VOp.mk (some 4) (.fieldAddr 162
  (.tmp 2) 0) none, VOp.mk (some 5) (.load 9 (.tmp 4)) none, VOp.mk (some 6) (.load 9 (.tmp 1)) none, VOp.mk (some 7) (.binOp .eql 9 (.tmp 5) (.tmp 6) 9) none, VOp.mk (some 3)
  (.assign (.tmp 7)) none]).seq VCode.ret)
theorem fn80 : FnOk Tryz.prog 80 8 vc80 [ResultVar.tmp 3] := ⟨Tryz.f80, _, [], Tryz.func80, rfl, rfl, rfl, by kernel_rfl, by kernel_rfl, by kernel_rfl⟩

/-- slices.Backward[[]wafer/env.Val,wafer/env.Val] -/
def vc112 : VCode := (VCode.ops [VOp.mk (some 1) (.box 45 (.tmp 0)) none, VOp.mk (some 2) (.assign (.const .nilFunc)) none]).seq ((VCode.ops [VOp.mk (some 3) (.makeFunc (.func 168)
  #[] #[.tmp 1]) none, VOp.mk (some 2) (.assign (.tmp 3)) none]).seq VCode.ret)
theorem fn112 : FnOk Tryz.prog 112 4 vc112 [ResultVar.tmp 2] := ⟨Tryz.f112, _, [], Tryz.func112, rfl, rfl, rfl, by kernel_rfl, by kernel_rfl, by kernel_rfl⟩

/-- slices.Backward[[]wafer/api.ValMember,wafer/api.ValMember] -/
def vc113 : VCode := (VCode.ops [VOp.mk (some 1) (.box 60 (.tmp 0)) none, VOp.mk (some 2) (.assign (.const .nilFunc)) none]).seq ((VCode.ops [VOp.mk (some 3) (.makeFunc (.func 169)
  #[] #[.tmp 1]) none, VOp.mk (some 2) (.assign (.tmp 3)) none]).seq VCode.ret)
theorem fn113 : FnOk Tryz.prog 113 4 vc113 [ResultVar.tmp 2] := ⟨Tryz.f113, _, [], Tryz.func113, rfl, rfl, rfl, by kernel_rfl, by kernel_rfl, by kernel_rfl⟩

/-- wafer/waferref09.sameTerm -/
def vc114 : VCode := (VCode.ops [VOp.mk (some 4) (.box 39 (.tmp 0)) none, VOp.mk (some 5) (.box 39 (.tmp 1)) none, VOp.mk (some 6) (.box 237 (.tmp 2)) none, VOp.mk (some 7) (.box
  237 (.tmp 3)) none, VOp.mk (some 8) (.assign (.const (.bool false))) none]).seq (((VCode.ops [VOp.mk (some 12) (.fieldAddr 39 (.tmp 4) 0) none, VOp.mk (some 13) (.load 3 (.tmp
  12)) none, VOp.mk (some 14) (.fieldAddr 39 (.tmp 5) 0) none, VOp.mk (some 15) (.load 3 (.tmp 14)) none, VOp.mk (some 16) (.binOp .neq 3 (.tmp 13) (.tmp 15) 3) none, VOp.mk (some
  17) (.move (.tmp 16)) none, VOp.mk (some 18) (.fieldAddr 39 (.tmp 4) 2) (some (some 17, false)), VOp.mk (some 19) (.load 2 (.tmp 18)) (some (some 17, false)), VOp.mk (some 20)
  (.fieldAddr 39 (.tmp 5) 2) (some (some 17, false)), VOp.mk (some 21) (.load 2 (.tmp 20)) (some (some 17, false)), VOp.mk (some 22) (.binOp .neq 2 (.tmp 19) (.tmp 21) 2) (some
  (some 17, false)), VOp.mk (some 23) (.pick (.tmp 17) (.const (.bool true)) (.tmp 22)) none, VOp.mk (some 24) (.move (.tmp 23)) none, VOp.mk (some 25) (.fieldAddr 39 (.tmp 4) 6)
  (some (some 24, false)), VOp.mk (some 26) (.load 37 (.tmp 25)) (some (some 24, false)), VOp.mk (some 27) (.call (.mk (.builtin .len) #[.tmp 26] #[37])) (some (some 24, false)),
  VOp.mk (some 28) (.fieldAddr 39 (.tmp 5) 6) (some (some 24, false)), VOp.mk (some 29) (.load 37 (.tmp 28)) (some (some 24, false)), VOp.mk (some 30) (.call (.mk (.builtin .len)
  #[.tmp 29] #[37])) (some (some 24, false)), VOp.mk (some 31) (.binOp .neq 3 (.tmp 27) (.tmp 30) 3) (some (some 24, false)), VOp.mk (some 32) (.pick (.tmp 24) (.const (.bool true))
  (.tmp 31)) none, VOp.mk (some 33) (.move (.tmp 32)) none, VOp.mk (some 34) (.fieldAddr 39 (.tmp 4) 5) (some (some 33, false)), VOp.mk (some 35) (.load 36 (.tmp 34)) (some (some
  33, false)), VOp.mk (some 36) (.call (.mk (.builtin .len) #[.tmp 35] #[36])) (some (some 33, false)), VOp.mk (some 37) (.fieldAddr 39 (.tmp 5) 5) (some (some 33, false)), VOp.mk
  (some 38) (.load 36 (.tmp 37)) (some (some 33, false)), VOp.mk (some 39) (.call (.mk (.builtin .len) #[.tmp 38] #[36])) (some (some 33, false)), VOp.mk (some 40) (.binOp .neq 3
  (.tmp 36) (.tmp 39) 3) (some (some 33, false)), VOp.mk (some 41) (.pick (.tmp 33) (.const (.bool true)) (.tmp 40)) none, VOp.mk (some 42) (.move (.tmp 41)) none, VOp.mk (some 43)
  (.fieldAddr 39 (.tmp 4) 4) (some (some 42, false)), VOp.mk (some 44) (.load 35 (.tmp 43)) (some (some 42, false)), VOp.mk (some 45) (.call (.mk (.builtin .len) #[.tmp 44] #[35]))
  (some (some 42, false)), VOp.mk (some 46) (.fieldAddr 39 (.tmp 5) 4) (some (some 42, false)), VOp.mk (some 47) (.load 35 (.tmp 46)) (some (some 42, false)), VOp.mk (some 48)
  (.call (.mk (.builtin .len) #[.tmp 47] #[35])) (some (some 42, false)), VOp.mk (some 49) (.binOp .neq 3 (.tmp 45) (.tmp 48) 3) (some (some 42, false)), VOp.mk (some 50) (.pick
  (.tmp 42) (.const (.bool true)) (.tmp 49)) none]).seq (VCode.cond (.tmp 50) ((VCode.ops [VOp.mk (some 8) (.assign (.const (.bool false))) none]).seq VCode.ret) VCode.skip)).seq
  (((VCode.ops [VOp.mk (some 51) (.fieldAddr 39 (.tmp 4) 0) none, VOp.mk (some 52) (.load 3 (.tmp 51)) none, VOp.mk (some 53) (.binOp .eql 3 (.tmp 52) (.const (.int .i64 4)) 3)
  none]).seq (VCode.cond (.tmp 53) ((VCode.ops [VOp.mk (some 54) (.fieldAddr 237 (.tmp 6) 1) none, VOp.mk (some 55) (.load 35 (.tmp 54)) none, VOp.mk (some 56) (.fieldAddr 39 (.tmp
  4) 3) none, VOp.mk (some 57) (.load 9 (.tmp 56)) none, VOp.mk (some 58) (.call (.mk (.value (.func 170)) #[.tmp 55, .tmp 57] #[35, 9])) none, VOp.mk (some 9) (.assign (.tmp 58))
  none]).seq ((VCode.ops [VOp.mk (some 59) (.move (.tmp 9)) none, VOp.mk (some 60) (.fieldAddr 237 (.tmp 7) 1) none, VOp.mk (some 61) (.load 35 (.tmp 60)) none, VOp.mk (some 62)
  (.fieldAddr 39 (.tmp 5) 3) none, VOp.mk (some 63) (.load 9 (.tmp 62)) none, VOp.mk (some 64) (.call (.mk (.value (.func 170)) #[.tmp 61, .tmp 63] #[35, 9])) none, VOp.mk (some 65)
  (.binOp .neq 3 (.tmp 59) (.tmp 64) 3) none, VOp.mk (some 66) (.move (.tmp 65)) none, VOp.mk (some 67) (.move (.tmp 9)) (some (some 66, false)), VOp.mk (some 68) (.binOp .lss 3
  (.tmp 67) (.const (.int .i64 0)) 3) (some (some 66, false)), VOp.mk (some 69) (.move (.tmp 68)) (some (some 66, false)), VOp.mk (some 70) (.fieldAddr 39 (.tmp 4) 3) (some (some
  69, true)), VOp.mk (some 71) (.load 9 (.tmp 70)) (some (some 69, true)), VOp.mk (some 72) (.fieldAddr 39 (.tmp 5) 3) (some (some 69, true)), VOp.mk (some 73) (.load 9 (.tmp 72))
  (some (some 69, true)), VOp.mk (some 74) (.binOp .neq 9 (.tmp 71) (.tmp 73) 9) (some (some 69, true)), VOp.mk (some 75) (.pick (.tmp 69) (.tmp 74) (.const (.bool false))) (some
  (some 66, false)), VOp.mk (some 76) (.pick (.tmp 66) (.const (.bool true)) (.tmp 75)) none]).seq (VCode.cond (.tmp 76) ((VCode.ops [VOp.mk (some 8) (.assign (.const (.bool
  false))) none]).seq VCode.ret) VCode.skip))) ((VCode.ops [VOp.mk (some 77) (.fieldAddr 39 (.tmp 4) 0) none, VOp.mk (some 78) (.load 3 (.tmp 77)) none, VOp.mk (some 79) (.call (.mk
  (.value (.func 171)) #[.tmp 78] #[3])) none, VOp.mk (some 80) (.unOp .not 4 (.tmp 79)) none, VOp.mk (some 81) (.move (.tmp 80)) none, VOp.mk (some 82) (.fieldAddr 39 (.tmp 4) 3)
  (some (some 81, true)), VOp.mk (some 83) (.load 9 (.tmp 82)) (some (some 81, true)), VOp.mk (some 84) (.fieldAddr 39 (.tmp 5) 3) (some (some 81, true)), VOp.mk (some 85) (.load 9
  (.tmp 84)) (some (some 81, true)), VOp.mk (some 86) (.binOp .neq 9 (.tmp 83) (.tmp 85) 9) (some (some 81, true)), VOp.mk (some 87) (.pick (.tmp 81) (.tmp 86) (.const (.bool
  false))) none]).seq (VCode.cond (.tmp 87) ((VCode.ops [VOp.mk (some 8) (.assign (.const (.bool false))) none]).seq VCode.ret) VCode.skip)))).seq (((VCode.ops [VOp.mk (some 88)
  (.fieldAddr 39 (.tmp 4) 0) none, VOp.mk (some 89) (.load 3 (.tmp 88)) none, VOp.mk (some 90) (.call (.mk (.value (.func 172)) #[.tmp 89] #[3])) none, VOp.mk (some 91) (.unOp .not
  4 (.tmp 90)) none, VOp.mk (some 92) (.move (.tmp 91)) none, VOp.mk (some 93) (.fieldAddr 39 (.tmp 4) 1) (some (some 92, true)), VOp.mk (some 94) (.load 3 (.tmp 93)) (some (some
  92, true)), VOp.mk (some 95) (.fieldAddr 39 (.tmp 5) 1) (some (some 92, true)), VOp.mk (some 96) (.load 3 (.tmp 95)) (some (some 92, true)), VOp.mk (some 97) (.binOp .neq 3 (.tmp
  94) (.tmp 96) 3) (some (some 92, true)), VOp.mk (some 98) (.pick (.tmp 92) (.tmp 97) (.const (.bool false))) none, VOp.mk (some 99) (.move (.tmp 98)) none, VOp.mk (some 100)
  (.fieldAddr 39 (.tmp 4) 0) (some (some 99, false)), VOp.mk (some 101) (.load 3 (.tmp 100)) (some (some 99, false)), VOp.mk (some 102) (.call (.mk (.value (.func 173)) #[.tmp 101]
  #[3])) (some (some 99, false)), VOp.mk (some 103) (.unOp .not 4 (.tmp 102)) (some (some 99, false)), VOp.mk (some 104) (.move (.tmp 103)) (some (some 99, false)), VOp.mk (some
  105) (.fieldAddr 39 (.tmp 4) 4) (some (some 104, true)), VOp.mk (some 106) (.load 35 (.tmp 105)) (some (some 104, true)), VOp.mk (some 107) (.fieldAddr 39 (.tmp 5) 4) (some (some
  104, true)), VOp.mk (some 108) (.load 35 (.tmp 107)) (some (some 104, true)), VOp.mk (some 109) (.call (.mk (.value (.func 174)) #[.tmp 106, .tmp 108] #[35, 35])) (some (some 104,
  true)), VOp.mk (some 110) (.unOp .not 4 (.tmp 109)) (some (some 104, true)), VOp.mk (some 111) (.pick (.tmp 104) (.tmp 110) (.const (.bool false))) (some (some 99, false)), VOp.mk
  (some 112) (.pick (.tmp 99) (.const (.bool true)) (.tmp 111)) none]).seq (VCode.cond (.tmp 112) ((VCode.ops [VOp.mk (some 8) (.assign (.const (.bool false))) none]).seq VCode.ret)
  VCode.skip)).seq (((VCode.ops [VOp.mk (some 10) (.assign (.const (.int .i64 0))) none]).seq (VCode.block 0 (((VCode.ops [VOp.mk (some 113) (.move (.tmp 10)) none, VOp.mk (some
  114) (.fieldAddr 39 (.tmp 4) 5) none, VOp.mk (some 115) (.load 36 (.tmp 114)) none, VOp.mk (some 116) (.call (.mk (.builtin .len) #[.tmp 115] #[36])) none, VOp.mk (some 117)
  (.binOp .lss 3 (.tmp 113) (.tmp 116) 3) none]).seq (VCode.cond (.tmp 117) VCode.skip (VCode.exit 0))).seq ((VCode.block 1 ((VCode.ops [VOp.mk (some 120) (.fieldAddr 39 (.tmp 4) 5)
  none, VOp.mk (some 121) (.load 36 (.tmp 120)) none, VOp.mk (some 122) (.move (.tmp 10)) none, VOp.mk (some 123) (.indexAddr 36 (.tmp 121) (.tmp 122)) none, VOp.mk (some 124)
  (.load 307 (.tmp 123)) none, VOp.mk (some 125) (.fieldAddr 39 (.tmp 5) 5) none, VOp.mk (some 126) (.load 36 (.tmp 125)) none, VOp.mk (some 127) (.move (.tmp 10)) none, VOp.mk
  (some 128) (.indexAddr 36 (.tmp 126) (.tmp 127)) none, VOp.mk (some 129) (.load 307 (.tmp 128)) none, VOp.mk (some 130) (.fieldAddr 237 (.tmp 6) 0) none, VOp.mk (some 131) (.load
  85 (.tmp 130)) none, VOp.mk (some 132) (.fieldAddr 237 (.tmp 7) 0) none, VOp.mk (some 133) (.load 85 (.tmp 132)) none, VOp.mk (some 134) (.call (.mk (.value (.func 175)) #[.tmp
  124, .tmp 129, .tmp 131, .tmp 133] #[307, 307, 85, 85])) none, VOp.mk (some 135) (.unOp .not 4 (.tmp 134)) none]).seq (VCode.cond (.tmp 135) ((VCode.ops [VOp.mk (some 8) (.assign
  (.const (.bool false))) none]).seq VCode.ret) VCode.skip))).seq (VCode.ops [VOp.mk (some 118) (.move (.tmp 10)) none, VOp.mk (some 119) (.binOp .add 3 (.tmp 118) (.const (.int
  .i64 1)) 3) none, VOp.mk (some 10) (.assign (.tmp 119)) none]))).loop)).seq (((VCode.ops [VOp.mk (some 11) (.assign (.const (.int .i64 0))) none]).seq (VCode.block 2 (((VCode.ops
  [VOp.mk (some 136) (.move (.tmp 11)) none, VOp.mk (some 137) (.fieldAddr 39 (.tmp 4) 6) none, VOp.mk (some 138) (.load 37 (.tmp 137)) none, VOp.mk (some 139) (.call (.mk (.builtin
  .len) #[.tmp 138] #[37])) none, VOp.mk (some 140) (.binOp .lss 3 (.tmp 136) (.tmp 139) 3) none]).seq (VCode.cond (.tmp 140) VCode.skip (VCode.exit 2))).seq ((VCode.block 3
  ((VCode.opsW [(0, VOp.mk (some 143) (.fieldAddr 39 (.tmp 4) 6) none), (1, VOp.mk (some 144) (.load 37 (.tmp 143)) none), (2, VOp.mk (some 145) (.move (.tmp 11)) none), (3, VOp.mk
  (some 146) (.indexAddr 37 (.tmp 144) (.tmp 145)) none), (4, VOp.mk (some 147) (.load 39 (.tmp 146)) none), (5, VOp.mk (some 148) (.fieldAddr 39 (.tmp 5) 6) none), (6, VOp.mk (some
  149) (.load 37 (.tmp 148)) none), (7, VOp.mk (some 150) (.move (.tmp 11)) none), (8, VOp.mk (some 151) (.indexAddr 37 (.tmp 149) (.tmp 150)) none), (9, VOp.mk (some 152) (.load 39
  (.tmp 151)) none), (10, VOp.mk (some 153) (.load 39 (.tmp 4)) none), (11, VOp.mk (some 154) (.move (.tmp 11)) none), (12, VOp.mk (some 155) (.load 237 (.tmp 6)) none), (14, VOp.mk
  (some 157) (.load 39 (.tmp 5)) none), (15, VOp.mk (some 158) (.move (.tmp 11)) none), (16, VOp.mk (some 159) (.load 237 (.tmp 7)) none), (13, VOp.mk (some 156) (.call (.mk (.value
  (.func 176)) #[.tmp 153, .tmp 154, .tmp 155] #[39, 3, 237])) none), (17, VOp.mk (some 160) (.call (.mk (.value (.func 176)) #[.tmp 157, .tmp 158, .tmp 159] #[39, 3, 237])) none),
  (18, VOp.mk (some 161) (.call (.mk (.value (.func 114)) #[.tmp 147, .tmp 152, .tmp 156, .tmp 160] #[39, 39, 237, 237])) none), (19, VOp.mk (some 162) (.unOp .not 4 (.tmp 161))
  none)] [(13, [0, 1, 3, 4, 5, 6, 8, 9, 14, 16]), (17, [0, 1, 3, 4, 5, 6, 8, 9])]).seq (VCode.cond (.tmp 162) ((VCode.ops [VOp.mk (some 8) (.assign (.const (.bool false)))
  none]).seq VCode.ret) VCode.skip))).seq (VCode.ops [VOp.mk (some 141) (.move (.tmp 11)) none, VOp.mk (some 142) (.binOp .add 3 (.tmp 141) (.const (.int .i64 1)) 3) none, VOp.mk
  (some 11) (.assign (.tmp 142)) none]))).loop)).seq ((VCode.ops [VOp.mk (some 8) (.assign (.const (.bool true))) none]).seq VCode.ret))))))
theorem fn114 : FnOk Tryz.prog 114 163 vc114 [ResultVar.tmp 8] := ⟨Tryz.f114, _, [(19, [([0, 1, 2, 3, 4, 5, 6, 7, 8, 9, 10, 11, 12, 14, 15, 16, 13, 17, 18, 19], [(13, [0, 1, 3, 4,
  5, 6, 8, 9, 14, 16]), (17, [0, 1, 3, 4, 5, 6, 8, 9])])])], Tryz.func114, rfl, rfl, rfl, by kernel_rfl, by kernel_rfl, by kernel_rfl⟩

/-- slices.Backward[[]wafer/env.Sub,wafer/env.Sub] -/
def vc115 : VCode := (VCode.ops [VOp.mk (some 1) (.box 48 (.tmp 0)) none, VOp.mk (some 2) (.assign (.const .nilFunc)) none]).seq ((VCode.ops [VOp.mk (some 3) (.makeFunc (.func 177)
  #[] #[.tmp 1]) none, VOp.mk (some 2) (.assign (.tmp 3)) none]).seq VCode.ret)
theorem fn115 : FnOk Tryz.prog 115 4 vc115 [ResultVar.tmp 2] := ⟨Tryz.f115, _, [], Tryz.func115, rfl, rfl, rfl, by kernel_rfl, by kernel_rfl, by kernel_rfl⟩

/-- slices.Backward[[]wafer/api.SubMember,wafer/api.SubMember] -/
def vc116 : VCode := (VCode.ops [VOp.mk (some 1) (.box 61 (.tmp 0)) none, VOp.mk (some 2) (.assign (.const .nilFunc)) none]).seq ((VCode.ops [VOp.mk (some 3) (.makeFunc (.func 178)
  #[] #[.tmp 1]) none, VOp.mk (some 2) (.assign (.tmp 3)) none]).seq VCode.ret)
theorem fn116 : FnOk Tryz.prog 116 4 vc116 [ResultVar.tmp 2] := ⟨Tryz.f116, _, [], Tryz.func116, rfl, rfl, rfl, by kernel_rfl, by kernel_rfl, by kernel_rfl⟩

/-- slices.Backward[[]wafer/env.Typ,wafer/env.Typ] -/
def vc117 : VCode := (VCode.ops [VOp.mk (some 1) (.box 47 (.tmp 0)) none, VOp.mk (some 2) (.assign (.const .nilFunc)) none]).seq ((VCode.ops [VOp.mk (some 3) (.makeFunc (.func 179)
  #[] #[.tmp 1]) none, VOp.mk (some 2) (.assign (.tmp 3)) none]).seq VCode.ret)
theorem fn117 : FnOk Tryz.prog 117 4 vc117 [ResultVar.tmp 2] := ⟨Tryz.f117, _, [], Tryz.func117, rfl, rfl, rfl, by kernel_rfl, by kernel_rfl, by kernel_rfl⟩

/-- slices.Backward[[]wafer/api.TyMember,wafer/api.TyMember] -/
def vc118 : VCode := (VCode.ops [VOp.mk (some 1) (.box 59 (.tmp 0)) none, VOp.mk (some 2) (.assign (.const .nilFunc)) none]).seq ((VCode.ops [VOp.mk (some 3) (.makeFunc (.func 180)
  #[] #[.tmp 1]) none, VOp.mk (some 2) (.assign (.tmp 3)) none]).seq VCode.ret)
theorem fn118 : FnOk Tryz.prog 118 4 vc118 [ResultVar.tmp 2] := ⟨Tryz.f118, _, [], Tryz.func118, rfl, rfl, rfl, by kernel_rfl, by kernel_rfl, by kernel_rfl⟩

/-- wafer/waferref08.number -/
def vc119 : VCode := (VCode.ops [VOp.mk (some 4) (.assign (.const (.int .i64 0))) none]).seq (((VCode.ops [VOp.mk (some 5) (.move (.tmp 0)) none, VOp.mk (some 6) (.move (.tmp 1))
  none, VOp.mk (some 7) (.binOp .lss 3 (.tmp 5) (.tmp 6) 3) none]).seq (VCode.cond (.tmp 7) ((VCode.ops [VOp.mk (some 4) (.assign (.const (.int .i64 (-1)))) none]).seq VCode.ret)
  VCode.skip)).seq (((VCode.ops [VOp.mk (some 8) (.move (.tmp 0)) none, VOp.mk (some 9) (.move (.tmp 1)) none, VOp.mk (some 10) (.binOp .gtr 3 (.tmp 8) (.tmp 9) 3) none]).seq
  (VCode.cond (.tmp 10) ((VCode.ops [VOp.mk (some 4) (.assign (.const (.int .i64 1))) none]).seq VCode.ret) VCode.skip)).seq ((VCode.ops [VOp.mk (some 4) (.assign (.const (.int .i64
  0))) none]).seq VCode.ret)))
theorem fn119 : FnOk Tryz.prog 119 11 vc119 [ResultVar.tmp 4] := ⟨Tryz.f119, _, [], Tryz.func119, rfl, rfl, rfl, by kernel_rfl, by kernel_rfl, by kernel_rfl⟩

/-- slices.Backward[[]wafer/env.Fun,wafer/env.Fun] -/
def vc120 : VCode := (VCode.ops [VOp.mk (some 1) (.box 49 (.tmp 0)) none, VOp.mk (some 2) (.assign (.const .nilFunc)) none]).seq ((VCode.ops [VOp.mk (some 3) (.makeFunc (.func 181)
  #[] #[.tmp 1]) none, VOp.mk (some 2) (.assign (.tmp 3)) none]).seq VCode.ret)
theorem fn120 : FnOk Tryz.prog 120 4 vc120 [ResultVar.tmp 2] := ⟨Tryz.f120, _, [], Tryz.func120, rfl, rfl, rfl, by kernel_rfl, by kernel_rfl, by kernel_rfl⟩

/-- slices.Backward[[]wafer/api.FunMember,wafer/api.FunMember] -/
def vc121 : VCode := (VCode.ops [VOp.mk (some 1) (.box 62 (.tmp 0)) none, VOp.mk (some 2) (.assign (.const .nilFunc)) none]).seq ((VCode.ops [VOp.mk (some 3) (.makeFunc (.func 182)
  #[] #[.tmp 1]) none, VOp.mk (some 2) (.assign (.tmp 3)) none]).seq VCode.ret)
theorem fn121 : FnOk Tryz.prog 121 4 vc121 [ResultVar.tmp 2] := ⟨Tryz.f121, _, [], Tryz.func121, rfl, rfl, rfl, by kernel_rfl, by kernel_rfl, by kernel_rfl⟩

/-- slices.Backward[[]wafer/env.Sig,wafer/env.Sig] -/
def vc122 : VCode := (VCode.ops [VOp.mk (some 1) (.box 50 (.tmp 0)) none, VOp.mk (some 2) (.assign (.const .nilFunc)) none]).seq ((VCode.ops [VOp.mk (some 3) (.makeFunc (.func 183)
  #[] #[.tmp 1]) none, VOp.mk (some 2) (.assign (.tmp 3)) none]).seq VCode.ret)
theorem fn122 : FnOk Tryz.prog 122 4 vc122 [ResultVar.tmp 2] := ⟨Tryz.f122, _, [], Tryz.func122, rfl, rfl, rfl, by kernel_rfl, by kernel_rfl, by kernel_rfl⟩

/-- slices.Backward[[]wafer/api.SigMember,wafer/api.SigMember] -/
def vc123 : VCode := (VCode.ops [VOp.mk (some 1) (.box 63 (.tmp 0)) none, VOp.mk (some 2) (.assign (.const .nilFunc)) none]).seq ((VCode.ops [VOp.mk (some 3) (.makeFunc (.func 184)
  #[] #[.tmp 1]) none, VOp.mk (some 2) (.assign (.tmp 3)) none]).seq VCode.ret)
theorem fn123 : FnOk Tryz.prog 123 4 vc123 [ResultVar.tmp 2] := ⟨Tryz.f123, _, [], Tryz.func123, rfl, rfl, rfl, by kernel_rfl, by kernel_rfl, by kernel_rfl⟩

/-- wafer/waferref09.nameLevel -/
def vc170 : VCode := (VCode.ops [VOp.mk (some 4) (.assign (.const (.int .i64 0))) none]).seq (((VCode.ops [VOp.mk (some 6) (.move (.tmp 0)) none, VOp.mk (some 7) (.call (.mk
  (.builtin .len) #[.tmp 6] #[35])) none, VOp.mk (some 8) (.binOp .sub 3 (.tmp 7) (.const (.int .i64 1)) 3) none, VOp.mk (some 5) (.assign (.tmp 8)) none]).seq (VCode.block 0
  (((VCode.ops [VOp.mk (some 9) (.move (.tmp 5)) none, VOp.mk (some 10) (.binOp .geq 3 (.tmp 9) (.const (.int .i64 0)) 3) none]).seq (VCode.cond (.tmp 10) VCode.skip (VCode.exit
  0))).seq ((VCode.block 1 ((VCode.ops [VOp.mk (some 13) (.move (.tmp 0)) none, VOp.mk (some 14) (.move (.tmp 5)) none, VOp.mk (some 15) (.indexAddr 35 (.tmp 13) (.tmp 14)) none,
  VOp.mk (some 16) (.load 9 (.tmp 15)) none, VOp.mk (some 17) (.move (.tmp 1)) none, VOp.mk (some 18) (.binOp .eql 9 (.tmp 16) (.tmp 17) 9) none]).seq (VCode.cond (.tmp 18)
  ((VCode.ops [VOp.mk (some 19) (.move (.tmp 5)) none, VOp.mk (some 4) (.assign (.tmp 19)) none]).seq VCode.ret) VCode.skip))).seq (VCode.ops [VOp.mk (some 11) (.move (.tmp 5))
  none, VOp.mk (some 12) (.binOp .sub 3 (.tmp 11) (.const (.int .i64 1)) 3) none, VOp.mk (some 5) (.assign (.tmp 12)) none]))).loop)).seq ((VCode.ops [VOp.mk (some 4) (.assign
  (.const (.int .i64 (-1)))) none]).seq VCode.ret))
theorem fn170 : FnOk Tryz.prog 170 20 vc170 [ResultVar.tmp 4] := ⟨Tryz.f170, _, [], Tryz.func170, rfl, rfl, rfl, by kernel_rfl, by kernel_rfl, by kernel_rfl⟩

/-- wafer/waferref09.bindsName -/
def vc171 : VCode := (VCode.ops [VOp.mk (some 2) (.assign (.const (.bool false))) none]).seq ((VCode.ops [VOp.mk (some 3) (.move (.tmp 0)) none, VOp.mk (some 4) (.binOp .eql 3 (.tmp
  3) (.const (.int .i64 5)) 3) none, VOp.mk (some 5) (.move (.tmp 4)) none, VOp.mk (some 6) (.move (.tmp 0)) (some (some 5, false)), VOp.mk (some 7) (.binOp .eql 3 (.tmp 6) (.const
  (.int .i64 7)) 3) (some (some 5, false)), VOp.mk (some 8) (.pick (.tmp 5) (.const (.bool true)) (.tmp 7)) none, VOp.mk (some 9) (.move (.tmp 8)) none, VOp.mk (some 10) (.move
  (.tmp 0)) (some (some 9, false)), VOp.mk (some 11) (.binOp .eql 3 (.tmp 10) (.const (.int .i64 8)) 3) (some (some 9, false)), VOp.mk (some 12) (.pick (.tmp 9) (.const (.bool
  true)) (.tmp 11)) none, VOp.mk (some 13) (.move (.tmp 12)) none, VOp.mk (some 14) (.move (.tmp 0)) (some (some 13, false)), VOp.mk (some 15) (.binOp .eql 3 (.tmp 14) (.const (.int
  .i64 23)) 3) (some (some 13, false)), VOp.mk (some 16) (.pick (.tmp 13) (.const (.bool true)) (.tmp 15)) none, VOp.mk (some 2) (.assign (.tmp 16)) none]).seq VCode.ret)
theorem fn171 : FnOk Tryz.prog 171 17 vc171 [ResultVar.tmp 2] := ⟨Tryz.f171, _, [], Tryz.func171, rfl, rfl, rfl, by kernel_rfl, by kernel_rfl, by kernel_rfl⟩

/-- wafer/waferref09.bindsNumber -/
def vc172 : VCode := (VCode.ops [VOp.mk (some 2) (.assign (.const (.bool false))) none]).seq ((VCode.ops [VOp.mk (some 3) (.move (.tmp 0)) none, VOp.mk (some 4) (.binOp .eql 3 (.tmp
  3) (.const (.int .i64 20)) 3) none, VOp.mk (some 5) (.move (.tmp 4)) none, VOp.mk (some 6) (.move (.tmp 0)) (some (some 5, false)), VOp.mk (some 7) (.binOp .eql 3 (.tmp 6) (.const
  (.int .i64 23)) 3) (some (some 5, false)), VOp.mk (some 8) (.pick (.tmp 5) (.const (.bool true)) (.tmp 7)) none, VOp.mk (some 2) (.assign (.tmp 8)) none]).seq VCode.ret)
theorem fn172 : FnOk Tryz.prog 172 9 vc172 [ResultVar.tmp 2] := ⟨Tryz.f172, _, [], Tryz.func172, rfl, rfl, rfl, by kernel_rfl, by kernel_rfl, by kernel_rfl⟩

/-- wafer/waferref09.bindsLabels -/
def vc173 : VCode := (VCode.ops [VOp.mk (some 2) (.assign (.const (.bool false))) none]).seq ((VCode.ops [VOp.mk (some 3) (.move (.tmp 0)) none, VOp.mk (some 4) (.binOp .eql 3 (.tmp
  3) (.const (.int .i64 7)) 3) none, VOp.mk (some 5) (.move (.tmp 4)) none, VOp.mk (some 6) (.move (.tmp 0)) (some (some 5, false)), VOp.mk (some 7) (.binOp .eql 3 (.tmp 6) (.const
  (.int .i64 17)) 3) (some (some 5, false)), VOp.mk (some 8) (.pick (.tmp 5) (.const (.bool true)) (.tmp 7)) none, VOp.mk (some 2) (.assign (.tmp 8)) none]).seq VCode.ret)
theorem fn173 : FnOk Tryz.prog 173 9 vc173 [ResultVar.tmp 2] := ⟨Tryz.f173, _, [], Tryz.func173, rfl, rfl, rfl, by kernel_rfl, by kernel_rfl, by kernel_rfl⟩

/-- wafer/waferref09.Texts -/
def vc174 : VCode := (VCode.ops [VOp.mk (some 4) (.assign (.const (.bool false))) none]).seq (((VCode.ops [VOp.mk (some 6) (.move (.tmp 0)) none, VOp.mk (some 7) (.call (.mk
  (.builtin .len) #[.tmp 6] #[35])) none, VOp.mk (some 8) (.move (.tmp 1)) none, VOp.mk (some 9) (.call (.mk (.builtin .len) #[.tmp 8] #[35])) none, VOp.mk (some 10) (.binOp .neq 3
  (.tmp 7) (.tmp 9) 3) none]).seq (VCode.cond (.tmp 10) ((VCode.ops [VOp.mk (some 4) (.assign (.const (.bool false))) none]).seq VCode.ret) VCode.skip)).seq (((VCode.ops [VOp.mk
  (some 5) (.assign (.const (.int .i64 0))) none]).seq (VCode.block 0 (((VCode.ops [VOp.mk (some 11) (.move (.tmp 5)) none, VOp.mk (some 12) (.move (.tmp 0)) none, VOp.mk (some 13)
  (.call (.mk (.builtin .len) #[.tmp 12] #[35])) none, VOp.mk (some 14) (.binOp .lss 3 (.tmp 11) (.tmp 13) 3) none]).seq (VCode.cond (.tmp 14) VCode.skip (VCode.exit 0))).seq
  ((VCode.block 1 ((VCode.ops [VOp.mk (some 17) (.move (.tmp 0)) none, VOp.mk (some 18) (.move (.tmp 5)) none, VOp.mk (some 19) (.indexAddr 35 (.tmp 17) (.tmp 18)) none, VOp.mk
  (some 20) (.load 9 (.tmp 19)) none, VOp.mk (some 21) (.move (.tmp 1)) none, VOp.mk (some 22) (.move (.tmp 5)) none, VOp.mk (some 23) (.indexAddr 35 (.tmp 21) (.tmp 22)) none,
  VOp.mk (some 24) (.load 9 (.tmp 23)) none, VOp.mk (some 25) (.binOp .neq 9 (.tmp 20) (.tmp 24) 9) none]).seq (VCode.cond (.tmp 25) ((VCode.ops [VOp.mk (some 4) (.assign (.const
  (.bool false))) none]).seq VCode.ret) VCode.skip))).seq (VCode.ops [VOp.mk (some 15) (.move (.tmp 5)) none, VOp.mk (some 16) (.binOp .add 3 (.tmp 15) (.const (.int .i64 1)) 3)
  none, VOp.mk (some 5) (.assign (.tmp 16)) none]))).loop)).seq ((VCode.ops [VOp.mk (some 4) (.assign (.const (.bool true))) none]).seq VCode.ret)))
theorem fn174 : FnOk Tryz.prog 174 26 vc174 [ResultVar.tmp 4] := ⟨Tryz.f174, _, [], Tryz.func174, rfl, rfl, rfl, by kernel_rfl, by kernel_rfl, by kernel_rfl⟩

/-- wafer/waferref09.same -/
def vc175 : VCode := (VCode.ops [VOp.mk (some 4) (.box 307 (.tmp 0)) none, VOp.mk (some 5) (.box 307 (.tmp 1)) none, VOp.mk (some 8) (.assign (.const (.bool false))) none]).seq
  (((VCode.ops [VOp.mk (some 10) (.fieldAddr 307 (.tmp 4) 0) none, VOp.mk (some 11) (.load 3 (.tmp 10)) none, VOp.mk (some 12) (.fieldAddr 307 (.tmp 5) 0) none, VOp.mk (some 13)
  (.load 3 (.tmp 12)) none, VOp.mk (some 14) (.binOp .neq 3 (.tmp 11) (.tmp 13) 3) none, VOp.mk (some 15) (.move (.tmp 14)) none, VOp.mk (some 16) (.fieldAddr 307 (.tmp 4) 3) (some
  (some 15, false)), VOp.mk (some 17) (.load 36 (.tmp 16)) (some (some 15, false)), VOp.mk (some 18) (.call (.mk (.builtin .len) #[.tmp 17] #[36])) (some (some 15, false)), VOp.mk
  (some 19) (.fieldAddr 307 (.tmp 5) 3) (some (some 15, false)), VOp.mk (some 20) (.load 36 (.tmp 19)) (some (some 15, false)), VOp.mk (some 21) (.call (.mk (.builtin .len) #[.tmp
  20] #[36])) (some (some 15, false)), VOp.mk (some 22) (.binOp .neq 3 (.tmp 18) (.tmp 21) 3) (some (some 15, false)), VOp.mk (some 23) (.pick (.tmp 15) (.const (.bool true)) (.tmp
  22)) none, VOp.mk (some 24) (.move (.tmp 23)) none, VOp.mk (some 25) (.fieldAddr 307 (.tmp 4) 2) (some (some 24, false)), VOp.mk (some 26) (.load 35 (.tmp 25)) (some (some 24,
  false)), VOp.mk (some 27) (.fieldAddr 307 (.tmp 5) 2) (some (some 24, false)), VOp.mk (some 28) (.load 35 (.tmp 27)) (some (some 24, false)), VOp.mk (some 29) (.call (.mk (.value
  (.func 174)) #[.tmp 26, .tmp 28] #[35, 35])) (some (some 24, false)), VOp.mk (some 30) (.unOp .not 4 (.tmp 29)) (some (some 24, false)), VOp.mk (some 31) (.pick (.tmp 24) (.const
  (.bool true)) (.tmp 30)) none]).seq (VCode.cond (.tmp 31) ((VCode.ops [VOp.mk (some 8) (.assign (.const (.bool false))) none]).seq VCode.ret) VCode.skip)).seq (((VCode.ops [VOp.mk
  (some 32) (.fieldAddr 307 (.tmp 4) 0) none, VOp.mk (some 33) (.load 3 (.tmp 32)) none, VOp.mk (some 34) (.binOp .eql 3 (.tmp 33) (.const (.int .i64 6)) 3) none]).seq (VCode.cond
  (.tmp 34) ((VCode.ops [VOp.mk (some 35) (.move (.tmp 2)) none, VOp.mk (some 36) (.fieldAddr 307 (.tmp 4) 1) none, VOp.mk (some 37) (.load 3 (.tmp 36)) none, VOp.mk (some 38)
  (.call (.mk (.value (.func 233)) #[.tmp 35, .tmp 37] #[85, 3])) none, VOp.mk (some 9) (.assign (.tmp 38)) none]).seq ((VCode.ops [VOp.mk (some 39) (.move (.tmp 9)) none, VOp.mk
  (some 40) (.move (.tmp 3)) none, VOp.mk (some 41) (.fieldAddr 307 (.tmp 5) 1) none, VOp.mk (some 42) (.load 3 (.tmp 41)) none, VOp.mk (some 43) (.call (.mk (.value (.func 233))
  #[.tmp 40, .tmp 42] #[85, 3])) none, VOp.mk (some 44) (.binOp .eql 3 (.tmp 39) (.tmp 43) 3) none, VOp.mk (some 45) (.move (.tmp 44)) none, VOp.mk (some 46) (.move (.tmp 9)) (some
  (some 45, true)), VOp.mk (some 47) (.binOp .geq 3 (.tmp 46) (.const (.int .i64 0)) 3) (some (some 45, true)), VOp.mk (some 48) (.move (.tmp 47)) (some (some 45, true)), VOp.mk
  (some 49) (.fieldAddr 307 (.tmp 4) 1) (some (some 48, false)), VOp.mk (some 50) (.load 3 (.tmp 49)) (some (some 48, false)), VOp.mk (some 51) (.fieldAddr 307 (.tmp 5) 1) (some
  (some 48, false)), VOp.mk (some 52) (.load 3 (.tmp 51)) (some (some 48, false)), VOp.mk (some 53) (.binOp .eql 3 (.tmp 50) (.tmp 52) 3) (some (some 48, false)), VOp.mk (some 54)
  (.pick (.tmp 48) (.const (.bool true)) (.tmp 53)) (some (some 45, true)), VOp.mk (some 55) (.pick (.tmp 45) (.tmp 54) (.const (.bool false))) none, VOp.mk (some 56) (.move (.tmp
  55)) none, VOp.mk (some 57) (.fieldAddr 307 (.tmp 4) 3) (some (some 56, true)), VOp.mk (some 58) (.load 36 (.tmp 57)) (some (some 56, true)), VOp.mk (some 59) (.fieldAddr 307
  (.tmp 5) 3) (some (some 56, true)), VOp.mk (some 60) (.load 36 (.tmp 59)) (some (some 56, true)), VOp.mk (some 61) (.move (.tmp 2)) (some (some 56, true)), VOp.mk (some 62) (.move
  (.tmp 3)) (some (some 56, true)), VOp.mk (some 63) (.call (.mk (.value (.func 234)) #[.tmp 58, .tmp 60, .tmp 61, .tmp 62] #[36, 36, 85, 85])) (some (some 56, true)), VOp.mk (some
  64) (.pick (.tmp 56) (.tmp 63) (.const (.bool false))) none, VOp.mk (some 8) (.assign (.tmp 64)) none]).seq VCode.ret)) VCode.skip)).seq (((VCode.ops [VOp.mk (some 65) (.fieldAddr
  307 (.tmp 4) 0) none, VOp.mk (some 66) (.load 3 (.tmp 65)) none, VOp.mk (some 67) (.call (.mk (.value (.func 235)) #[.tmp 66] #[3])) none]).seq (VCode.cond (.tmp 67) ((VCode.opsW
  [(0, VOp.mk (some 68) (.fieldAddr 307 (.tmp 4) 3) none), (1, VOp.mk (some 69) (.load 36 (.tmp 68)) none), (2, VOp.mk (some 70) (.fieldAddr 307 (.tmp 5) 3) none), (3, VOp.mk (some
  71) (.load 36 (.tmp 70)) none), (4, VOp.mk (some 72) (.move (.tmp 2)) none), (5, VOp.mk (some 73) (.fieldAddr 307 (.tmp 4) 1) none), (6, VOp.mk (some 74) (.load 3 (.tmp 73))
  none), (8, VOp.mk (some 76) (.move (.tmp 3)) none), (9, VOp.mk (some 77) (.fieldAddr 307 (.tmp 5) 1) none), (10, VOp.mk (some 78) (.load 3 (.tmp 77)) none), (7, VOp.mk (some 75)
  (.call (.mk (.value (.func 236)) #[.tmp 72, .tmp 74] #[85, 3])) none), (11, VOp.mk (some 79) (.call (.mk (.value (.func 236)) #[.tmp 76, .tmp 78] #[85, 3])) none), (12, VOp.mk
  (some 80) (.call (.mk (.value (.func 234)) #[.tmp 69, .tmp 71, .tmp 75, .tmp 79] #[36, 36, 85, 85])) none), (13, VOp.mk (some 8) (.assign (.tmp 80)) none)] [(7, [0, 1, 2, 3, 9,
  10]), (11, [0, 1, 2, 3])]).seq VCode.ret) VCode.skip)).seq ((VCode.ops [VOp.mk (some 81) (.fieldAddr 307 (.tmp 4) 1) none, VOp.mk (some 82) (.load 3 (.tmp 81)) none, VOp.mk (some
  83) (.fieldAddr 307 (.tmp 5) 1) none, VOp.mk (some 84) (.load 3 (.tmp 83)) none, VOp.mk (some 85) (.binOp .eql 3 (.tmp 82) (.tmp 84) 3) none, VOp.mk (some 86) (.move (.tmp 85))
  none, VOp.mk (some 87) (.fieldAddr 307 (.tmp 4) 3) (some (some 86, true)), VOp.mk (some 88) (.load 36 (.tmp 87)) (some (some 86, true)), VOp.mk (some 89) (.fieldAddr 307 (.tmp 5)
  3) (some (some 86, true)), VOp.mk (some 90) (.load 36 (.tmp 89)) (some (some 86, true)), VOp.mk (some 91) (.move (.tmp 2)) (some (some 86, true)), VOp.mk (some 92) (.move (.tmp
  3)) (some (some 86, true)), VOp.mk (some 93) (.call (.mk (.value (.func 234)) #[.tmp 88, .tmp 90, .tmp 91, .tmp 92] #[36, 36, 85, 85])) (some (some 86, true)), VOp.mk (some 94)
  (.pick (.tmp 86) (.tmp 93) (.const (.bool false))) none, VOp.mk (some 8) (.assign (.tmp 94)) none]).seq VCode.ret))))
theorem fn175 : FnOk Tryz.prog 175 95 vc175 [ResultVar.tmp 8] := ⟨Tryz.f175, _, [(7, [([0, 1, 2, 3, 4, 5, 6, 8, 9, 10, 7, 11, 12, 13], [(7, [0, 1, 2, 3, 9, 10]), (11, [0, 1, 2,
  3])])])], Tryz.func175, rfl, rfl, rfl, by kernel_rfl, by kernel_rfl, by kernel_rfl⟩

/-- wafer/waferref09.Inner -/
def vc176 : VCode := (VCode.ops [VOp.mk (some 3) (.box 39 (.tmp 0)) none, VOp.mk (some 5) (.box 237 (.tmp 2)) none, VOp.mk (some 6) (.alloc 237) none]).seq (((VCode.ops [VOp.mk
  (some 7) (.fieldAddr 39 (.tmp 3) 0) none, VOp.mk (some 8) (.load 3 (.tmp 7)) none]).seq (VCode.block 0 ((VCode.ops [VOp.mk (some 10) (.binOp .eql 3 (.tmp 8) (.const (.int .i64
  20)) 3) none, VOp.mk (some 9) (.assign (.tmp 10)) none]).seq (VCode.cond (.tmp 9) (VCode.ops [VOp.mk (some 11) (.fieldAddr 237 (.tmp 5) 0) none, VOp.mk (some 12) (.load 85 (.tmp
  11)) none, VOp.mk (some 13) (.fieldAddr 39 (.tmp 3) 1) none, VOp.mk (some 14) (.load 3 (.tmp 13)) none, VOp.mk (some 15) (.call (.mk (.value (.func 236)) #[.tmp 12, .tmp 14] #[85,
  3])) none, VOp.mk (some 16) (.fieldAddr 237 (.tmp 5) 0) none, VOp.mk none (.store 85 (.tmp 16) (.tmp 15)) none]) ((VCode.ops [VOp.mk (some 18) (.binOp .eql 3 (.tmp 8) (.const
  (.int .i64 5)) 3) none, VOp.mk (some 17) (.assign (.tmp 18)) none]).seq (VCode.cond (.tmp 17) (VCode.ops [VOp.mk (some 19) (.fieldAddr 237 (.tmp 5) 1) none, VOp.mk (some 20)
  (.load 35 (.tmp 19)) none, VOp.mk (some 21) (.fieldAddr 39 (.tmp 3) 3) none, VOp.mk (some 22) (.load 9 (.tmp 21)) none, VOp.mk (some 23) (.call (.mk (.value (.func 237)) #[.tmp
  20, .tmp 22] #[35, 9])) none, VOp.mk (some 24) (.fieldAddr 237 (.tmp 5) 1) none, VOp.mk none (.store 35 (.tmp 24) (.tmp 23)) none]) ((VCode.ops [VOp.mk (some 26) (.binOp .eql 3
  (.tmp 8) (.const (.int .i64 7)) 3) none, VOp.mk (some 25) (.assign (.tmp 26)) none]).seq (VCode.cond (.tmp 25) ((VCode.ops [VOp.mk (some 27) (.fieldAddr 237 (.tmp 5) 1) none,
  VOp.mk (some 28) (.load 35 (.tmp 27)) none, VOp.mk (some 29) (.fieldAddr 39 (.tmp 3) 3) none, VOp.mk (some 30) (.load 9 (.tmp 29)) none, VOp.mk (some 31) (.call (.mk (.value
  (.func 237)) #[.tmp 28, .tmp 30] #[35, 9])) none, VOp.mk (some 32) (.fieldAddr 237 (.tmp 5) 1) none, VOp.mk none (.store 35 (.tmp 32) (.tmp 31)) none]).seq ((VCode.ops [VOp.mk
  (some 33) (.fieldAddr 39 (.tmp 3) 4) none, VOp.mk (some 34) (.load 35 (.tmp 33)) none, VOp.mk (some 35) (.call (.mk (.builtin .len) #[.tmp 34] #[35])) none, VOp.mk (some 36)
  (.binOp .gtr 3 (.tmp 35) (.const (.int .i64 0)) 3) none]).seq (VCode.cond (.tmp 36) (VCode.ops [VOp.mk (some 37) (.fieldAddr 237 (.tmp 5) 1) none, VOp.mk (some 38) (.load 35 (.tmp
  37)) none, VOp.mk (some 39) (.fieldAddr 39 (.tmp 3) 4) none, VOp.mk (some 40) (.load 35 (.tmp 39)) none, VOp.mk (some 41) (.indexAddr 35 (.tmp 40) (.const (.int .i64 0))) none,
  VOp.mk (some 42) (.load 9 (.tmp 41)) none, VOp.mk (some 43) (.call (.mk (.value (.func 237)) #[.tmp 38, .tmp 42] #[35, 9])) none, VOp.mk (some 44) (.fieldAddr 237 (.tmp 5) 1)
  none, VOp.mk none (.store 35 (.tmp 44) (.tmp 43)) none]) VCode.skip))) ((VCode.ops [VOp.mk (some 46) (.binOp .eql 3 (.tmp 8) (.const (.int .i64 8)) 3) none, VOp.mk (some 45)
  (.assign (.tmp 46)) none]).seq (VCode.cond (.tmp 45) ((VCode.ops [VOp.mk (some 47) (.move (.tmp 1)) none, VOp.mk (some 48) (.binOp .gtr 3 (.tmp 47) (.const (.int .i64 0)) 3)
  none]).seq (VCode.cond (.tmp 48) (VCode.ops [VOp.mk (some 49) (.fieldAddr 237 (.tmp 5) 1) none, VOp.mk (some 50) (.load 35 (.tmp 49)) none, VOp.mk (some 51) (.fieldAddr 39 (.tmp
  3) 3) none, VOp.mk (some 52) (.load 9 (.tmp 51)) none, VOp.mk (some 53) (.call (.mk (.value (.func 237)) #[.tmp 50, .tmp 52] #[35, 9])) none, VOp.mk (some 54) (.fieldAddr 237
  (.tmp 5) 1) none, VOp.mk none (.store 35 (.tmp 54) (.tmp 53)) none]) VCode.skip)) ((VCode.ops [VOp.mk (some 56) (.binOp .eql 3 (.tmp 8) (.const (.int .i64 23)) 3) none, VOp.mk
  (some 55) (.assign (.tmp 56)) none]).seq (VCode.cond (.tmp 55) ((VCode.ops [VOp.mk (some 57) (.move (.tmp 1)) none, VOp.mk (some 58) (.binOp .gtr 3 (.tmp 57) (.const (.int .i64
  0)) 3) none]).seq (VCode.cond (.tmp 58) ((VCode.ops [VOp.mk (some 59) (.fieldAddr 237 (.tmp 5) 0) none, VOp.mk (some 60) (.load 85 (.tmp 59)) none, VOp.mk (some 61) (.fieldAddr 39
  (.tmp 3) 1) none, VOp.mk (some 62) (.load 3 (.tmp 61)) none, VOp.mk (some 63) (.call (.mk (.value (.func 236)) #[.tmp 60, .tmp 62] #[85, 3])) none, VOp.mk (some 64) (.fieldAddr
  237 (.tmp 5) 0) none, VOp.mk none (.store 85 (.tmp 64) (.tmp 63)) none]).seq (VCode.ops [VOp.mk (some 65) (.fieldAddr 237 (.tmp 5) 1) none, VOp.mk (some 66) (.load 35 (.tmp 65))
  none, VOp.mk (some 67) (.fieldAddr 39 (.tmp 3) 3) none, VOp.mk (some 68) (.load 9 (.tmp 67)) none, VOp.mk (some 69) (.call (.mk (.value (.func 237)) #[.tmp 66, .tmp 68] #[35, 9]))
  none, VOp.mk (some 70) (.fieldAddr 237 (.tmp 5) 1) none, VOp.mk none (.store 35 (.tmp 70) (.tmp 69)) none])) VCode.skip)) ((VCode.ops [VOp.mk (some 72) (.binOp .eql 3 (.tmp 8)
  (.const (.int .i64 17)) 3) none, VOp.mk (some 71) (.assign (.tmp 72)) none]).seq (VCode.cond (.tmp 71) ((VCode.ops [VOp.mk (some 73) (.move (.tmp 1)) none, VOp.mk (some 74)
  (.binOp .gtr 3 (.tmp 73) (.const (.int .i64 0)) 3) none, VOp.mk (some 75) (.move (.tmp 74)) none, VOp.mk (some 76) (.move (.tmp 1)) (some (some 75, true)), VOp.mk (some 77)
  (.fieldAddr 39 (.tmp 3) 4) (some (some 75, true)), VOp.mk (some 78) (.load 35 (.tmp 77)) (some (some 75, true)), VOp.mk (some 79) (.call (.mk (.builtin .len) #[.tmp 78] #[35]))
  (some (some 75, true)), VOp.mk (some 80) (.binOp .leq 3 (.tmp 76) (.tmp 79) 3) (some (some 75, true)), VOp.mk (some 81) (.pick (.tmp 75) (.tmp 80) (.const (.bool false)))
  none]).seq (VCode.cond (.tmp 81) (VCode.ops [VOp.mk (some 82) (.fieldAddr 237 (.tmp 5) 1) none, VOp.mk (some 83) (.load 35 (.tmp 82)) none, VOp.mk (some 84) (.fieldAddr 39 (.tmp
  3) 4) none, VOp.mk (some 85) (.load 35 (.tmp 84)) none, VOp.mk (some 86) (.move (.tmp 1)) none, VOp.mk (some 87) (.binOp .sub 3 (.tmp 86) (.const (.int .i64 1)) 3) none, VOp.mk
  (some 88) (.indexAddr 35 (.tmp 85) (.tmp 87)) none, VOp.mk (some 89) (.load 9 (.tmp 88)) none, VOp.mk (some 90) (.call (.mk (.value (.func 237)) #[.tmp 83, .tmp 89] #[35, 9]))
  none, VOp.mk (some 91) (.fieldAddr 237 (.tmp 5) 1) none, VOp.mk none (.store 35 (.tmp 91) (.tmp 90)) none]) VCode.skip)) VCode.skip)))))))))))))).seq ((VCode.ops [VOp.mk (some 92)
  (.load 237 (.tmp 5)) none, VOp.mk none (.store 237 (.tmp 6) (.tmp 92)) none]).seq VCode.ret))
theorem fn176 : FnOk Tryz.prog 176 93 vc176 [ResultVar.cell 6 237] := ⟨Tryz.f176, _, [], Tryz.func176, rfl, rfl, rfl, by kernel_rfl, by kernel_rfl, by kernel_rfl⟩

/-- wafer/waferref09.level -/
def vc233 : VCode := (VCode.ops [VOp.mk (some 4) (.assign (.const (.int .i64 0))) none]).seq (((VCode.ops [VOp.mk (some 6) (.move (.tmp 0)) none, VOp.mk (some 7) (.call (.mk
  (.builtin .len) #[.tmp 6] #[85])) none, VOp.mk (some 8) (.binOp .sub 3 (.tmp 7) (.const (.int .i64 1)) 3) none, VOp.mk (some 5) (.assign (.tmp 8)) none]).seq (VCode.block 0
  (((VCode.ops [VOp.mk (some 9) (.move (.tmp 5)) none, VOp.mk (some 10) (.binOp .geq 3 (.tmp 9) (.const (.int .i64 0)) 3) none]).seq (VCode.cond (.tmp 10) VCode.skip (VCode.exit
  0))).seq ((VCode.block 1 ((VCode.ops [VOp.mk (some 13) (.move (.tmp 0)) none, VOp.mk (some 14) (.move (.tmp 5)) none, VOp.mk (some 15) (.indexAddr 85 (.tmp 13) (.tmp 14)) none,
  VOp.mk (some 16) (.load 3 (.tmp 15)) none, VOp.mk (some 17) (.move (.tmp 1)) none, VOp.mk (some 18) (.binOp .eql 3 (.tmp 16) (.tmp 17) 3) none]).seq (VCode.cond (.tmp 18)
  ((VCode.ops [VOp.mk (some 19) (.move (.tmp 5)) none, VOp.mk (some 4) (.assign (.tmp 19)) none]).seq VCode.ret) VCode.skip))).seq (VCode.ops [VOp.mk (some 11) (.move (.tmp 5))
  none, VOp.mk (some 12) (.binOp .sub 3 (.tmp 11) (.const (.int .i64 1)) 3) none, VOp.mk (some 5) (.assign (.tmp 12)) none]))).loop)).seq ((VCode.ops [VOp.mk (some 4) (.assign
  (.const (.int .i64 (-1)))) none]).seq VCode.ret))
theorem fn233 : FnOk Tryz.prog 233 20 vc233 [ResultVar.tmp 4] := ⟨Tryz.f233, _, [], Tryz.func233, rfl, rfl, rfl, by kernel_rfl, by kernel_rfl, by kernel_rfl⟩

/-- wafer/waferref09.sameAll -/
def vc234 : VCode := (VCode.ops [VOp.mk (some 8) (.assign (.const (.bool false))) none]).seq (((VCode.ops [VOp.mk (some 9) (.assign (.const (.int .i64 0))) none]).seq (VCode.block 0
  (((VCode.ops [VOp.mk (some 10) (.move (.tmp 9)) none, VOp.mk (some 11) (.move (.tmp 0)) none, VOp.mk (some 12) (.call (.mk (.builtin .len) #[.tmp 11] #[36])) none, VOp.mk (some
  13) (.binOp .lss 3 (.tmp 10) (.tmp 12) 3) none]).seq (VCode.cond (.tmp 13) VCode.skip (VCode.exit 0))).seq ((VCode.block 1 ((VCode.ops [VOp.mk (some 16) (.move (.tmp 0)) none,
  VOp.mk (some 17) (.move (.tmp 9)) none, VOp.mk (some 18) (.indexAddr 36 (.tmp 16) (.tmp 17)) none, VOp.mk (some 19) (.load 307 (.tmp 18)) none, VOp.mk (some 20) (.move (.tmp 1))
  none, VOp.mk (some 21) (.move (.tmp 9)) none, VOp.mk (some 22) (.indexAddr 36 (.tmp 20) (.tmp 21)) none, VOp.mk (some 23) (.load 307 (.tmp 22)) none, VOp.mk (some 24) (.move (.tmp
  2)) none, VOp.mk (some 25) (.move (.tmp 3)) none, VOp.mk (some 26) (.call (.mk (.value (.func 175)) #[.tmp 19, .tmp 23, .tmp 24, .tmp 25] #[307, 307, 85, 85])) none, VOp.mk (some
  27) (.unOp .not 4 (.tmp 26)) none]).seq (VCode.cond (.tmp 27) ((VCode.ops [VOp.mk (some 8) (.assign (.const (.bool false))) none]).seq VCode.ret) VCode.skip))).seq (VCode.ops
  [VOp.mk (some 14) (.move (.tmp 9)) none, VOp.mk (some 15) (.binOp .add 3 (.tmp 14) (.const (.int .i64 1)) 3) none, VOp.mk (some 9) (.assign (.tmp 15)) none]))).loop)).seq
  ((VCode.ops [VOp.mk (some 8) (.assign (.const (.bool true))) none]).seq VCode.ret))
theorem fn234 : FnOk Tryz.prog 234 28 vc234 [ResultVar.tmp 8] := ⟨Tryz.f234, _, [], Tryz.func234, rfl, rfl, rfl, by kernel_rfl, by kernel_rfl, by kernel_rfl⟩

/-- wafer/waferref09.binds -/
def vc235 : VCode := (VCode.ops [VOp.mk (some 2) (.assign (.const (.bool false))) none]).seq ((VCode.ops [VOp.mk (some 3) (.move (.tmp 0)) none, VOp.mk (some 4) (.binOp .eql 3 (.tmp
  3) (.const (.int .i64 9)) 3) none, VOp.mk (some 5) (.move (.tmp 4)) none, VOp.mk (some 6) (.move (.tmp 0)) (some (some 5, false)), VOp.mk (some 7) (.binOp .eql 3 (.tmp 6) (.const
  (.int .i64 10)) 3) (some (some 5, false)), VOp.mk (some 8) (.pick (.tmp 5) (.const (.bool true)) (.tmp 7)) none, VOp.mk (some 9) (.move (.tmp 8)) none, VOp.mk (some 10) (.move
  (.tmp 0)) (some (some 9, false)), VOp.mk (some 11) (.binOp .eql 3 (.tmp 10) (.const (.int .i64 11)) 3) (some (some 9, false)), VOp.mk (some 12) (.pick (.tmp 9) (.const (.bool
  true)) (.tmp 11)) none, VOp.mk (some 2) (.assign (.tmp 12)) none]).seq VCode.ret)
theorem fn235 : FnOk Tryz.prog 235 13 vc235 [ResultVar.tmp 2] := ⟨Tryz.f235, _, [], Tryz.func235, rfl, rfl, rfl, by kernel_rfl, by kernel_rfl, by kernel_rfl⟩

/-- wafer/waferref09.with -/
def vc236 : VCode := (VCode.ops [VOp.mk (some 4) (.assign (.const (.slice none 0 0))) none]).seq ((VCode.ops [VOp.mk (some 5) (.buildSlice 85 0 #[]) none, VOp.mk (some 6) (.move
  (.tmp 0)) none, VOp.mk (some 7) (.call (.mk (.builtin .append) #[.tmp 5, .tmp 6] #[85, 85])) none, VOp.mk (some 8) (.move (.tmp 1)) none, VOp.mk (some 9) (.buildSlice 85 1 #[(0,
  .tmp 8)]) none, VOp.mk (some 10) (.call (.mk (.builtin .append) #[.tmp 7, .tmp 9] #[85, 85])) none, VOp.mk (some 4) (.assign (.tmp 10)) none]).seq VCode.ret)
theorem fn236 : FnOk Tryz.prog 236 11 vc236 [ResultVar.tmp 4] := ⟨Tryz.f236, _, [], Tryz.func236, rfl, rfl, rfl, by kernel_rfl, by kernel_rfl, by kernel_rfl⟩

/-- wafer/waferref09.named -/
def vc237 : VCode := (VCode.ops [VOp.mk (some 4) (.assign (.const (.slice none 0 0))) none]).seq ((VCode.ops [VOp.mk (some 5) (.buildSlice 35 0 #[]) none, VOp.mk (some 6) (.move
  (.tmp 0)) none, VOp.mk (some 7) (.call (.mk (.builtin .append) #[.tmp 5, .tmp 6] #[35, 35])) none, VOp.mk (some 8) (.move (.tmp 1)) none, VOp.mk (some 9) (.buildSlice 35 1 #[(0,
  .tmp 8)]) none, VOp.mk (some 10) (.call (.mk (.builtin .append) #[.tmp 7, .tmp 9] #[35, 35])) none, VOp.mk (some 4) (.assign (.tmp 10)) none]).seq VCode.ret)
theorem fn237 : FnOk Tryz.prog 237 11 vc237 [ResultVar.tmp 4] := ⟨Tryz.f237, _, [], Tryz.func237, rfl, rfl, rfl, by kernel_rfl, by kernel_rfl, by kernel_rfl⟩

end Go.Vt.Tryz
