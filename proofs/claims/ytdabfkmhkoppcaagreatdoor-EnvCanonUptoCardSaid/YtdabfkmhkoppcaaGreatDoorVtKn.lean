import Derived.Test.YtdabfkmhkoppcaaGreatDoorProg
import Derived.Test.YtdabfkmhkoppcaaGreatDoorVtSeat
import Derived.Lib.ItoaNum
import Derived.KernelRfl
import Derived.Test.YtdabfkmhkoppcaaGreatDoorVtSimp
import Derived.Test.YtdabfkmhkoppcaaGreatDoorVtComp
set_option linter.all false
set_option maxRecDepth 100000
open List renaming range→kt4
open Go.Proofs.Tryz renaming prog→kp8
namespace Go.Vt.Tryz
open Go.Proofs
def zZ6:Array Value:=(Lib.pow10Tab.map fun z=>Value.int .u64 z).toArray
instance tabs0:cJ:=⟨fun b=>if b=1 then some zZ6 else none⟩
theorem jE4:cJ.Y 1=some (Lib.pow10Tab.map fun z=>Value.int .u64 z).toArray:=rfl
theorem zu7:kp8.globalNamed "internal/strconv.uint64pow10" = some 1:=by kernel_rfl
end Go.Vt.Tryz
namespace Go.Vt
open And renaming intro→ai
structure Bx (p:Prop):Type where
 d:p
def bV0:=Bx.mk <| ai @ju5 (ai @jz7 (ai @jz8 (ai @jz9 (ai @jA0 (ai @jv8 (ai @jA1 (ai @jA2 (ai @jA3 (ai @jA4 (ai @jA5 (ai @jA6 (ai @yE.eq_1 (ai @ro.eq_1 (ai @ro.eq_2 (ai @ro.eq_3 (ai @ro.eq_4 (ai @ro.eq_5 (ai @ro.eq_6 (ai @ro.eq_7 (ai @ro.eq_8 (ai @ro.eq_9 (ai @ro.eq_10 (ai @ro.eq_11 (ai @ro.eq_12 (ai @ro.eq_13 (ai @ro.eq_14 (ai @ro.eq_15 (ai @ro.eq_16 (ai @ro.eq_17 (ai @ro.eq_18 (ai @ro.eq_19 (ai @ro.eq_20 (ai @ro.eq_21 (ai @ro.eq_22 (ai @List.any_cons.{0} (ai @List.any_nil.{0} (ai @List.contains_cons.{0} (ai @List.contains_nil.{0} @Bool.or_true))))))))))))))))))))))))))))))))))))))
def bV1:=Bx.mk <| ai @Bool.true_or (ai @Bool.or_false (ai @Bool.false_or (ai @tD (ai @ju6 (ai @ju7 (ai @ju8 (ai @ju9 (ai @jv0 (ai @jv1 (ai @jv2 (ai @jv4 (ai @jv5 (ai @jv6 (ai @jv7 (ai @jv9 (ai @jw0 (ai @jw1 (ai @jw2 (ai @jw3 (ai @jw4 (ai @jw5 (ai @jw6 (ai @jw7 (ai @jw8 (ai @jw9 (ai @jx0 (ai @jx1 (ai @jx2 (ai @jx3 (ai @jy2 (ai @jy3 (ai @jy4 (ai @jy5 (ai @asB.eq_1 (ai @asB.eq_2 (ai @asL.eq_1 (ai @asL.eq_2 (ai @asI.eq_1 @asI.eq_2))))))))))))))))))))))))))))))))))))))
def bV2:=Bx.mk <| ai @vN.eq_1 (ai @vN.eq_2 (ai @vN.eq_3 (ai @jy6 (ai @jy7 (ai @jy8 (ai @jy9 (ai @zX2 (ai @jz0 (ai @jz1 (ai @jz2 (ai @jA7 (ai @jA8 (ai @jA9 (ai @jB0 (ai @jB1 (ai @jB2 (ai @jB3 (ai @jB4 (ai @jB6 (ai @jB7 (ai @jB8 (ai @jC1 (ai @jB9 (ai @jC0 (ai @jm2 (ai @iC (ai @jC2 (ai @jC3 (ai @jC4 (ai @jC5 (ai @jC6 (ai @cN.eq_1 (ai @cN.eq_2 (ai @cN.eq_3 (ai @cN.eq_4 (ai @mkV.eq_1 (ai @mkV.eq_2 (ai @sO.eq_1 @iG.eq_1))))))))))))))))))))))))))))))))))))))
def bV3:=Bx.mk <| ai @iG.eq_2 (ai @iG.eq_3 (ai @jR.eq_1 (ai @jR.eq_2 (ai @kQ.eq_1 (ai @kQ.eq_2 (ai @toD.eq_1 (ai @toD.eq_2 (ai @toD.eq_3 (ai @toD.eq_4 (ai @lH.eq_1 (ai @lH.eq_2 (ai @fzL.eq_1 (ai @fzL.eq_2 (ai @fzOne.eq_1 (ai @aI.freeze.eq_1 (ai @aI.freeze.eq_2 (ai @mB.eq_1 (ai @mT.eq_1 (ai @mT.eq_2 (ai @mT.eq_3 (ai @mT.eq_4 (ai @kR.eq_1 (ai @kR.eq_2 (ai @kR.eq_3 (ai @kR.eq_4 (ai @kR.eq_5 (ai @uP.eq_1 (ai @pG.eq_1 (ai @pG.eq_2 (ai @vbr.eq_1 (ai @vbr.eq_2 (ai @iO.eq_1 (ai @iO.eq_2 (ai @iO.eq_3 (ai @iO.eq_4 (ai @iO.eq_5 (ai @iO.eq_6 (ai @iO.eq_7 @dL.eq_1))))))))))))))))))))))))))))))))))))))
def bV4:=Bx.mk <| ai @dL.eq_2 (ai @dL.eq_3 (ai @dL.eq_4 (ai @dL.eq_5 (ai @dL.eq_6 (ai @dL.eq_7 (ai @dL.eq_8 (ai @dL.eq_9 (ai @dL.eq_10 (ai @dL.eq_11 (ai @fF.eq_1 (ai @fF.eq_2 (ai @fF.eq_3 (ai @kT.eq_1 (ai @kT.eq_2 (ai @eO.eq_1 (ai @eO.eq_2 (ai @lI.eq_1 (ai @lI.eq_2 (ai @gZ.eq_1 (ai @gZ.eq_2 (ai @gV.eq_1 (ai @gV.eq_2 (ai @gV.eq_3 (ai @gV.eq_4 (ai @gV.eq_5 (ai @gV.eq_6 (ai @gV.eq_7 (ai @gV.eq_8 (ai @gV.eq_9 (ai @gU.eq_1 (ai @gU.eq_2 (ai @gU.eq_3 (ai @gU.eq_4 (ai @gU.eq_5 (ai @gU.eq_6 (ai @gU.eq_7 (ai @gU.eq_8 (ai @gU.eq_9 @gU.eq_10))))))))))))))))))))))))))))))))))))))
def bV5:=Bx.mk <| ai @gU.eq_11 (ai @nT.eq_1 (ai @nT.eq_2 (ai @nT.eq_3 (ai @nT.eq_4 (ai @nT.eq_5 (ai @nT.eq_6 (ai @nT.eq_7 (ai @nT.eq_8 (ai @jE.eq_1 (ai @jE.eq_2 (ai @jE.eq_3 (ai @jE.eq_4 (ai @jE.eq_5 (ai @jE.eq_6 (ai @jE.eq_7 (ai @uQ.eq_1 (ai @uQ.eq_2 (ai @uQ.eq_3 (ai @sQ.eq_1 (ai @sQ.eq_2 (ai @pK.eq_1 (ai @pK.eq_2 (ai @pK.eq_3 (ai @pK.eq_4 (ai @oR.eq_1 (ai @oR.eq_2 (ai @oR.eq_3 (ai @oR.eq_4 (ai @mV.eq_1 (ai @mV.eq_2 (ai @mV.eq_3 (ai @dX.eq_1 (ai @dX.eq_2 (ai @dX.eq_3 (ai @dX.eq_4 (ai @dX.eq_5 (ai @dX.eq_6 (ai @qX.eq_1 @qX.eq_2))))))))))))))))))))))))))))))))))))))
def bV6:=Bx.mk <| ai @jD.eq_1 (ai @jD.eq_2 (ai @xJ.eq_1 (ai @uW.eq_1 (ai @uW.eq_2 (ai @pM.eq_1 (ai @pM.eq_2 (ai @pM.eq_3 (ai @uV.eq_1 (ai @uV.eq_2 (ai @uV.eq_3 (ai @mC.eq_1 (ai @zok.eq_1 (ai @xK.eq_1 (ai @zX3.eq_1 (ai @zX3.eq_2 (ai @jC7 (ai @jC8 (ai @jC9 (ai @zs4.eq_1 (ai @sV.eq_1 (ai @vrw.eq_1 (ai @zT4.eq_1 (ai @Bool.and_false (ai @jx4 (ai @jx5 (ai @jx6 (ai @jx7 (ai @jx8 (ai @jx9 (ai @jy0 (ai @jy1 (ai @jz3 (ai @jz4 (ai @jz5 (ai @jz6 (ai @eV.eq_1 (ai @eV.eq_2 (ai @eB.eq_1 @eB.eq_2))))))))))))))))))))))))))))))))))))))
def bV7:=Bx.mk <| ai @dM.eq_1 (ai @dM.eq_2 (ai @mD.eq_1 (ai @mD.eq_2 (ai @mD.eq_3 (ai @lK.eq_1 (ai @lK.eq_2 (ai @kU.eq_1 (ai @kU.eq_2 (ai @idx.eq_1 (ai @idx.eq_2 (ai @List.lookup_nil.{0,0} (ai @List.getElem?_cons_zero.{0} (ai @List.getElem?_cons_succ.{0} (ai @List.getElem?_nil.{0} (ai @List.take_succ_cons.{0} (ai @List.take_zero.{0} (ai @List.take_nil.{0} (ai @List.drop_succ_cons.{0} (ai @List.drop_zero.{0} (ai @List.drop_nil.{0} (ai @List.length_cons.{0} (ai @List.length_nil.{0} (ai @List.append_nil.{0} (ai @List.nil_append.{0} (ai @List.cons_append.{0} (ai @List.map_cons.{0,0} (ai @List.map_nil.{0,0} (ai @List.set_cons_zero.{0} (ai @List.set_cons_succ.{0} (ai @List.set_nil.{0} (ai @List.all_cons.{0} (ai @List.all_nil.{0} (ai @List.map_append.{0,0} (ai @Bool.and_true (ai @Bool.true_and (ai @beq_self_eq_true.{0} (ai @cond_true.{1} (ai @cond_false.{1} @true_and))))))))))))))))))))))))))))))))))))))
def bV8:=Bx.mk <| ai @and_true (ai @false_and (ai @and_false (ai @and_self (ai @Option.map_some.{0,0} (ai @Option.map_none.{0,0} (ai @Option.bind_some.{0,0} (ai @Option.bind_none.{0,0} (ai @Option.isSome_some.{0} (ai @decide_true (ai @decide_false (ai @decide_eq_true_eq (ai @decide_eq_false_iff_not (ai @beq_iff_eq.{0} (ai @bne_iff_ne.{0} (ai @beq_eq_false_iff_ne.{0} (ai @bne_eq_false_iff_eq.{0} (ai @Bool.false_eq_true (ai @eq_self.{1} (ai @forall_const.{0} (ai @forall_const.{1} (ai @not_true_eq_false (ai @not_false_eq_true (ai @ne_eq.{1} (ai @false_implies (ai @implies_true.{0} (ai @implies_true.{1} (ai @true_implies (ai @Bool.not_true (ai @Bool.not_false (ai @Nat.zero_add (ai @Nat.le_refl (ai @Nat.add_zero (ai @gt_iff_lt.{0} @ge_iff_le.{0})))))))))))))))))))))))))))))))))
def bV:=Bx.mk <| ai bV0.d (ai bV1.d (ai bV2.d (ai bV3.d (ai bV4.d (ai bV5.d (ai bV6.d (ai bV7.d bV8.d)))))))
def yR:Sl→List (Option V)
 |[]=>[]
 |x::r=>some x.2::yR r
def yS (h:aB) (ids:List Nat) (T:Sl):Sl→List (Option V)
 |[]=>[]
 |x::r=>(match T.lookup x.1 with|some v=>cF h ids v|none=>none)::yS h ids T r
theorem eD [cJ] {h:aB} {ids:List Nat} {T:Sl}:∀{T0:Sl},yS h ids T T0=yR T0→Sub h ids T0 T
 |[],_=>trivial
 |(i,v0)::r,e=>by
  simp only[yS,yR,List.cons.injEq]at e;obtain⟨e1,e2⟩:=e;refine⟨?_,eD e2⟩;cases hl:T.lookup i with
  |none=>rw[hl]at e1;cases e1
  |some v=>rw[hl]at e1;exact⟨v,ko0 v,e1⟩
theorem aP [cJ] {n:Nat} {T T0:Sl} {h h0:aB} (ids:List Nat) (k2:bO ids=true) (k3:ids.take n=kt4 n) (k4:bA h (idx ids) ids=some h0) (k5:yS h ids T T0=yR T0):fG n T h T0 h0:=
 gJ ids h (ko1 _) k2 k3 k4 (eD k5)
theorem oC [cJ] {n:Nat} {T T0 T1:Sl} {h h0 hp hh:aB} (gs:List (Nat×Nat)) (bs:List (Nat×Nat×Nat)) (ids:List Nat) (k0:tC T h gs=some (T1,hp)) (k0':eP hp bs=some hh) (k2:bO ids=true) (k3:ids.take n=kt4 n) (k4:bA hh (idx ids) ids=some h0)
  (k5:yS hh ids T1 T0=yR T0):fG n T h T0 h0:=oA gs bs ids hh k0 k0' (ko1 _) k2 k3 k4 (eD k5)
theorem aM [cJ] {P:Program} {h:aB} {K:Kn (V×aB)} {f:FuncId} {avs:List V} (ids:List Nat) {avs':List V} {hs H h':aB} {R r':V} (hc:VC P f avs' hs fun r h'=>r=R∧h'=H) (hn:bO ids=true) (hl:cE h ids avs=some avs') (hh:bA h (idx ids) ids=some hs)
  (hb:mE h ids (dM ids avs) R H=some (r',h')) (hk:K.run (r',h')):@kE _ P f avs h K:=bJ ids hc hn hl hh (by rintro _ _ ⟨rfl,rfl⟩;exact⟨_,_,hb,hk⟩)
end Go.Vt
namespace Go.Vt.Tryz
open Go.Proofs
theorem mixed:kp8.follows .mixedOrders=true:=by kernel_rfl
theorem zZ7 (f:Nat):mX kp8 f=List.contains [288] f:=jE3 (by kernel_rfl) (by kernel_rfl) f
theorem bt3:bty kp8 3=none:=by kernel_rfl
theorem jE5:bty kp8 32=none:=by kernel_rfl
theorem jE6:bty kp8 34=none:=by kernel_rfl
theorem jE7:bty kp8 65=none:=by kernel_rfl
theorem jE8:bty kp8 85=none:=by kernel_rfl
theorem jE9:bty kp8 87=none:=by kernel_rfl
theorem jF0:bty kp8 89=none:=by kernel_rfl
theorem jF1:bty kp8 126=none:=by kernel_rfl
theorem jF2:bty kp8 133=none:=by kernel_rfl
theorem zZ8:bty kp8 140=none:=by kernel_rfl
theorem jF3:bty kp8 156=none:=by kernel_rfl
theorem jF4:bty kp8 161=none:=by kernel_rfl
theorem jF5:bty kp8 162=none:=by kernel_rfl
theorem jF6:bty kp8 187=none:=by kernel_rfl
theorem jF7:bty kp8 190=none:=by kernel_rfl
theorem jF8:bty kp8 193=none:=by kernel_rfl
theorem jF9:bty kp8 196=none:=by kernel_rfl
theorem jG0:bty kp8 199=none:=by kernel_rfl
theorem jG1:bty kp8 201=none:=by kernel_rfl
theorem jG2:bty kp8 204=none:=by kernel_rfl
theorem jG3:bty kp8 211=none:=by kernel_rfl
theorem jG4:bty kp8 212=none:=by kernel_rfl
theorem jG5:bty kp8 213=none:=by kernel_rfl
theorem jG6:bty kp8 215=none:=by kernel_rfl
theorem jG7:bty kp8 216=none:=by kernel_rfl
theorem zZ9:bty kp8 222=some 222:=by kernel_rfl
theorem jG8:bty kp8 225=none:=by kernel_rfl
theorem jG9:bty kp8 227=none:=by kernel_rfl
theorem jH0:bty kp8 347=none:=by kernel_rfl
theorem jH1:bty kp8 413=none:=by kernel_rfl
theorem ti3:ti kp8 3=some (TI.mk 1 8 false (some (V.one (L.d (.int .i64 0)))) (TK.int IntKind.i64) [] none):=by kernel_rfl
theorem ti4:ti kp8 4=some (TI.mk 1 1 false (some (V.one (L.d (D.bool false)))) TK.bool [] none):=by kernel_rfl
theorem ti5:ti kp8 5=some (TI.mk 1 1 false (some (V.one (L.d (D.int IntKind.u8 (0))))) (TK.int IntKind.u8) [] none):=by kernel_rfl
theorem ti9:ti kp8 9=some (TI.mk 1 16 false (some (V.one (L.d (D.str (ByteArray.mk (Array.mk [])))))) TK.str [] none):=by kernel_rfl
theorem kZ:ti kp8 30=some (TI.mk 1 24 false (some (V.one L.nils)) TK.slice [] (some (EI.mk 3 40 (some (V.agg [L.d (.int .i64 0),L.d (.int .i64 0),
 L.nils])) true))):=by kernel_rfl
theorem kG:ti kp8 32=some (TI.mk 3 40 true (some (V.agg [L.d (.int .i64 0),L.d (.int .i64 0),L.nils])) TK.struct [(0,1,false),(1,1,false),(2,
 1,false)] none):=by kernel_rfl
theorem zu8:ti kp8 34=some (TI.mk 4 48 true (some (V.agg [L.d (.int .i64 0),L.d (.int .i64 0),L.d (.int .i64 0),L.nils])) TK.struct [(0,
 1,false),(1,3,true)] none):=by kernel_rfl
theorem z00:ti kp8 35=some (TI.mk 1 24 false (some (V.one L.nils)) TK.slice [] (some (EI.mk 1 16 (some (V.one (L.d (D.str (ByteArray.mk (Array.mk [])))))) false))):=by
 kernel_rfl
theorem pT:ti kp8 59=some (TI.mk 1 24 false (some (V.one L.nils)) TK.slice [] (some (EI.mk 5 80 (some (V.agg [L.d (D.str (ByteArray.mk (Array.mk []))),L.d (D.int
 IntKind.i64 (0)),L.d (.int .i64 0),L.nils,L.nils])) true))):=by kernel_rfl
theorem pU:ti kp8 60=some (TI.mk 1 24 false (some (V.one L.nils)) TK.slice [] (some (EI.mk 5 64 (some (V.agg [L.d (D.str (ByteArray.mk (Array.mk []))),L.d (D.int
 IntKind.i64 (0)),L.d (.int .i64 0),L.d (.int .i64 0),L.nils])) true))):=by kernel_rfl
theorem nI:ti kp8 61=some (TI.mk 1 24 false (some (V.one L.nils)) TK.slice [] (some (EI.mk 6 136 (some (V.agg [L.d (D.str (ByteArray.mk (Array.mk []))),L.nils,L.nils,
 L.nils,L.nils,L.nils])) true))):=by kernel_rfl
theorem pV:ti kp8 62=some (TI.mk 1 24 false (some (V.one L.nils)) TK.slice [] (some (EI.mk 13 304 (some (V.agg [L.d (D.str (ByteArray.mk (Array.mk []))),L.nils,L.nils,
 L.nils,L.nils,L.nils,L.nils,L.nils,L.nils,L.nils,L.nils,L.nils,L.nils])) true))):=by kernel_rfl
theorem pW:ti kp8 63=some (TI.mk 1 24 false (some (V.one L.nils)) TK.slice [] (some (EI.mk 7 160 (some (V.agg [L.d (D.str (ByteArray.mk (Array.mk []))),L.nils,L.nils,
 L.nils,L.nils,L.nils,L.nils])) true))):=by kernel_rfl
theorem kI:ti kp8 65=some (TI.mk 5 120 true (some (V.agg [L.nils,L.nils,L.nils,L.nils,L.nils])) TK.struct [(0,1,false),(1,1,false),(2,1,false),(3,1,
 false),(4,1,false)] none):=by kernel_rfl
theorem tQ:ti kp8 70=some (TI.mk 1 24 false (some (V.one L.nils)) TK.slice [] (some (EI.mk 2 40 (some (V.agg [L.d (D.str (ByteArray.mk (Array.mk []))),L.nils])) true)))
 := by kernel_rfl
theorem iM:ti kp8 85=some (TI.mk 1 24 false (some (V.one L.nils)) TK.slice [] (some (EI.mk 1 8 (some (V.one (L.d (.int .i64 0)))) false))):=by kernel_rfl
theorem nJ:ti kp8 87=some (TI.mk 6 144 true (some (V.agg [L.nils,L.nils,L.nils,L.nils,L.nils,L.nils])) TK.struct [(0,1,false),(1,5,true)] none):=by
 kernel_rfl
theorem rP:ti kp8 89=some (TI.mk 12 288 true (some (V.agg [L.nils,L.nils,L.nils,L.nils,L.nils,L.nils,L.nils,L.nils,L.nils,L.nils,L.nils,L.nils])) TK.struct
 [(0,1,false),(1,5,true),(6,6,true)] none):=by kernel_rfl
theorem rQ:ti kp8 126=some (TI.mk 5 64 true (some (V.agg [L.d (D.str (ByteArray.mk (Array.mk []))),L.d (.int .i64 0),L.d (.int .i64 0),L.d (D.int
 IntKind.i64 (0)),L.nils])) TK.struct [(0,1,false),(1,4,true)] none):=by kernel_rfl
theorem rR:ti kp8 133=some (TI.mk 5 80 true (some (V.agg [L.d (D.str (ByteArray.mk (Array.mk []))),L.d (.int .i64 0),L.d (.int .i64 0),L.nils,
 L.nils])) TK.struct [(0,1,false),(1,3,true),(4,1,false)] none):=by kernel_rfl
theorem mI:ti kp8 140=some (TI.mk 6 136 true (some (V.agg [L.d (D.str (ByteArray.mk (Array.mk []))),L.nils,L.nils,L.nils,L.nils,L.nils])) TK.struct [(0,1,false),
 (1,5,true)] none):=by kernel_rfl
theorem wA:ti kp8 156=some (TI.mk 2 40 true (some (V.agg [L.d (D.str (ByteArray.mk (Array.mk []))),L.nils])) TK.struct [(0,1,false),(1,1,false)] none):=by
 kernel_rfl
theorem rS:ti kp8 161=some (TI.mk 13 304 true (some (V.agg [L.d (D.str (ByteArray.mk (Array.mk []))),L.nils,L.nils,L.nils,L.nils,L.nils,L.nils,L.nils,L.nils,
 L.nils,L.nils,L.nils,L.nils])) TK.struct [(0,1,false),(1,12,true)] none):=by kernel_rfl
theorem rT:ti kp8 162=some (TI.mk 7 160 true (some (V.agg [L.d (D.str (ByteArray.mk (Array.mk []))),L.nils,L.nils,L.nils,L.nils,L.nils,L.nils])) TK.struct [(0,1,
 false),(1,6,true)] none):=by kernel_rfl
theorem jH2:ti kp8 187=some (TI.mk 1 8 false (some (V.one L.nilf)) TK.func [] none):=by kernel_rfl
theorem jH3:ti kp8 190=some (TI.mk 1 8 false (some (V.one L.nilf)) TK.func [] none):=by kernel_rfl
theorem jH4:ti kp8 193=some (TI.mk 1 8 false (some (V.one L.nilf)) TK.func [] none):=by kernel_rfl
theorem jH5:ti kp8 196=some (TI.mk 1 8 false (some (V.one L.nilf)) TK.func [] none):=by kernel_rfl
theorem jH6:ti kp8 199=some (TI.mk 1 8 false (some (V.one L.nilf)) TK.func [] none):=by kernel_rfl
theorem pX:ti kp8 201=some (TI.mk 1 8 false (some (V.one (L.d D.nilp))) TK.ptr [] none):=by kernel_rfl
theorem zu9:ti kp8 202=some (TI.mk 1 8 false (some (V.one L.nilf)) TK.func [] none):=by kernel_rfl
theorem z01:ti kp8 204=some (TI.mk 3 56 true (some (V.agg [L.nils,L.nils,L.nilf])) TK.struct [(0,1,false),(1,1,false),(2,1,false)] none):=by kernel_rfl
theorem tR:ti kp8 209=some (TI.mk 1 24 false (some (V.one L.nils)) TK.slice [] (some (EI.mk 2 16 (some (V.agg [L.d (.int .i64 0),L.d (D.int IntKind.i64
 (0))])) true))):=by kernel_rfl
theorem z02:ti kp8 211=some (TI.mk 6 128 true (some (V.agg [L.nils,L.nils,L.nils,L.d (.int .i64 0),L.nils,L.nils])) TK.struct [(0,1,false),(1,1,
 false),(2,1,false),(3,1,false),(4,1,false),(5,1,false)] none):=by kernel_rfl
theorem jH7:ti kp8 212=some (TI.mk 1 8 false (some (V.one (L.d D.nilp))) TK.ptr [] none):=by kernel_rfl
theorem nK:ti kp8 213=some (TI.mk 1 24 false (some (V.one L.nils)) TK.slice [] (some (EI.mk 1 8 (some (V.one (L.d D.nilp))) false))):=by kernel_rfl
theorem z03:ti kp8 215=some (TI.mk 3 56 true (some (V.agg [L.nils,L.d (.int .i64 0),L.nils])) TK.struct [(0,1,false),(1,1,false),(2,1,false)] none)
 := by kernel_rfl
theorem jH8:ti kp8 216=some (TI.mk 1 8 false (some (V.one (L.d D.nilp))) TK.ptr [] none):=by kernel_rfl
theorem yT:ti kp8 217=some (TI.mk 1 8 false (some (V.one (L.d D.nilp))) TK.ptr [] none):=by kernel_rfl
theorem wB:ti kp8 218=some (TI.mk 1 24 false (some (V.one L.nils)) TK.slice [] (some (EI.mk 1 1 (some (V.one (L.d (D.int IntKind.u8 (0))))) false))):=by kernel_rfl
theorem jH9:ti kp8 220=some (TI.mk 2 32 true (some (V.agg [L.d D.nilp,L.nils])) TK.struct [(0,1,false),(1,1,false)] none):=by kernel_rfl
theorem z04:ti kp8 222=some (TI.mk 3 56 true (some (V.agg [L.d D.nilp,L.nils,L.nils])) TK.struct [(0,2,true),(2,1,false)] none):=by kernel_rfl
theorem jI0:ti kp8 225=some (TI.mk 1 8 false (some (V.one (L.d D.nilp))) TK.ptr [] none):=by kernel_rfl
theorem z05:ti kp8 227=some (TI.mk 2 48 true (some (V.agg [L.nils,L.nils])) TK.struct [(0,1,false),(1,1,false)] none):=by kernel_rfl
theorem zv0:ti kp8 285=some (TI.mk 1 24 false (some (V.one L.nils)) TK.slice [] (some (EI.mk 1 24 (some (V.one L.nils)) false))):=by kernel_rfl
theorem z06:ti kp8 330=some (TI.mk 2 16 true (some (V.agg [L.d (.int .i64 0),L.d (.int .i64 0)])) TK.struct [(0,1,false),(1,1,false)] none):=
 by kernel_rfl
theorem z07:ti kp8 345=some (TI.mk 1 8 false (some (V.one (L.d D.nilp))) TK.ptr [] none):=by kernel_rfl
theorem z08:ti kp8 347=some (TI.mk 2 16 true (some (V.agg [L.d (.int .i64 0),L.d (.int .i64 0)])) TK.struct [(0,1,false),(1,1,false)] none):=
 by kernel_rfl
theorem z09:ti kp8 398=some (TI.mk 1 8 false (some (V.one (L.d D.nilp))) TK.other [] none):=by kernel_rfl
theorem z12:ti kp8 413=some (TI.mk 2 32 true (some (V.agg [L.d (.int .i64 0),L.nils])) TK.struct [(0,1,false),(1,1,false)] none):=by kernel_rfl
theorem zv1:ti kp8 357=some (TI.mk 1 8 false (some (V.one (L.d (D.int IntKind.u64 (0))))) (TK.int IntKind.u64) [] none):=by kernel_rfl
def sg8:cO:=[(2,[([0,2,1,3,4,5,6,7,8,9,10,11,12,14,13,15,16,17,18,19,21,20,22,23,24,25,26,27,28,29,32,35,36,37,30,31,33,34,38,39,40,
 41,42,43,44],[(1,[2]),(13,[14]),(20,[21]),(30,[32,35,36,37]),(33,[35,36,37,31])])]),(28,[([0,1,2,3,4,6,5,7,8,9,10],[(5,[6])])])]
noncomputable def vc8:aC:=aN sg8 (aT Tryz.f8)
theorem fn8:aJ kp8 8 153 vc8 [.tmp 4]:=⟨Tryz.f8,_,sg8,Tryz.func8,rfl,rfl,rfl,by kernel_rfl,by kernel_rfl,by kernel_rfl⟩
noncomputable def zv2:aC:=aN [] (aT Tryz.f11)
theorem jI1:aJ kp8 11 17 zv2 [.tmp 4]:=⟨Tryz.f11,_,[],Tryz.func11,rfl,rfl,rfl,by kernel_rfl,by kernel_rfl,by kernel_rfl⟩
noncomputable def zv3:aC:=aN [] (aT Tryz.f16)
theorem jI2:aJ kp8 16 9 zv3 [.tmp 4]:=⟨Tryz.f16,_,[],Tryz.func16,rfl,rfl,rfl,by kernel_rfl,by kernel_rfl,by kernel_rfl⟩
noncomputable def zv4:aC:=aN [] (aT Tryz.f20)
theorem jI3:aJ kp8 20 271 zv4 [.tmp 4]:=⟨Tryz.f20,_,[],Tryz.func20,rfl,rfl,rfl,by kernel_rfl,by kernel_rfl,by kernel_rfl⟩
noncomputable def zv5:aC:=aN [] (aT Tryz.f23)
theorem jI4:aJ kp8 23 26 zv5 [.tmp 4]:=⟨Tryz.f23,_,[],Tryz.func23,rfl,rfl,rfl,by kernel_rfl,by kernel_rfl,by kernel_rfl⟩
noncomputable def zv6:aC:=aN [] (aT Tryz.f24)
theorem jI5:aJ kp8 24 17 zv6 [.tmp 4]:=⟨Tryz.f24,_,[],Tryz.func24,rfl,rfl,rfl,by kernel_rfl,by kernel_rfl,by kernel_rfl⟩
def z13:cO:=[(1,[([0,1,3,4,6,7,9,10,12,13,2,5,8,11,14,15,16],[(2,[3,4,6,7,9,10,12,13]),(5,[6,7,9,10,12,13]),(8,[9,10,12,13]),(11,
 [12,13])])])]
noncomputable def zv7:aC:=aN z13 (aT Tryz.f29)
theorem jI6:aJ kp8 29 19 zv7 [.cell 2 65]:=⟨Tryz.f29,_,z13,Tryz.func29,rfl,rfl,rfl,by kernel_rfl,by kernel_rfl,by kernel_rfl⟩
def z14:cO:=[(6,[([0,1,2,3,4,5,6,7,8,9,10,11,12,15,16,17,18,19,20,21,22,23,24,25,13,14,26,27,28,29,30,31,32,33],[(13,[0,1,2,3,4,5,
 15,16,17,18,24,25]),(14,[0,1,15,16,17,18,24,25]),(26,[0,1,2,3,4,5,11,12,15,16,17,18]),(27,[0,1]),(30,[1])]),([0,1,2,3,4,5,6,7,8,9,10,
 11,12,15,16,17,18,19,20,21,22,23,24,25,13,26,14,27,28,29,30,31,32,33],[]),([0,1,2,3,4,5,6,7,8,9,10,11,12,15,16,17,18,19,20,21,22,23,
 24,25,26,13,14,27,28,29,30,31,32,33],[])])]
noncomputable def zv8:aC:=aN z14 (aT Tryz.f31)
theorem jI7:aJ kp8 31 61 zv8 [.cell 6 87]:=⟨Tryz.f31,_,z14,Tryz.func31,rfl,rfl,rfl,by kernel_rfl,by kernel_rfl,by kernel_rfl⟩
def z15:cO:=[(1,[([0,2,1,3,4,5],[(1,[2])])])]
noncomputable def zv9:aC:=aN z15 (aT Tryz.f33)
theorem jI8:aJ kp8 33 10 zv9 [.tmp 4]:=⟨Tryz.f33,_,z15,Tryz.func33,rfl,rfl,rfl,by kernel_rfl,by kernel_rfl,by kernel_rfl⟩
def z16:cO:=[(2,[([0,1,2,3,4,5,6,7,8],[(5,[1,2])])])]
noncomputable def zw0:aC:=aN z16 (aT Tryz.f34)
theorem jI9:aJ kp8 34 16 zw0 [.cell 2 87]:=⟨Tryz.f34,_,z16,Tryz.func34,rfl,rfl,rfl,by kernel_rfl,by kernel_rfl,by kernel_rfl⟩
noncomputable def yU:aC:=aN [] (aT Tryz.f35)
theorem z17:aJ kp8 35 19 yU [.tmp 2]:=⟨Tryz.f35,_,[],Tryz.func35,rfl,rfl,rfl,by kernel_rfl,by kernel_rfl,by kernel_rfl⟩
noncomputable def zw1:aC:=aN [] (aT Tryz.f36)
theorem jJ0:aJ kp8 36 11 zw1 [.tmp 2]:=⟨Tryz.f36,_,[],Tryz.func36,rfl,rfl,rfl,by kernel_rfl,by kernel_rfl,by kernel_rfl⟩
noncomputable def zw2:aC:=aN [] (aT Tryz.f61)
theorem jJ1:aJ kp8 61 57 zw2 [.tmp 4]:=⟨Tryz.f61,_,[],Tryz.func61,rfl,rfl,rfl,by kernel_rfl,by kernel_rfl,by kernel_rfl⟩
noncomputable def zw3:aC:=aN [] (aT Tryz.f65)
theorem jJ2:aJ kp8 65 72 zw3 [.tmp 4]:=⟨Tryz.f65,_,[],Tryz.func65,rfl,rfl,rfl,by kernel_rfl,by kernel_rfl,by kernel_rfl⟩
noncomputable def zw4:aC:=aN [] (aT Tryz.f66)
theorem jJ3:aJ kp8 66 26 zw4 [.tmp 4]:=⟨Tryz.f66,_,[],Tryz.func66,rfl,rfl,rfl,by kernel_rfl,by kernel_rfl,by kernel_rfl⟩
noncomputable def zw5:aC:=aN [] (aT Tryz.f84)
theorem jJ4:aJ kp8 84 5 zw5 [.tmp 2]:=⟨Tryz.f84,_,[],Tryz.func84,rfl,rfl,rfl,by kernel_rfl,by kernel_rfl,by kernel_rfl⟩
noncomputable def zw6:aC:=aN [] (aT Tryz.f85)
theorem jJ5:aJ kp8 85 4 zw6 [.cell 2 133]:=⟨Tryz.f85,_,[],Tryz.func85,rfl,rfl,rfl,by kernel_rfl,by kernel_rfl,by kernel_rfl⟩
noncomputable def zw7:aC:=aN [] (aT Tryz.f87)
theorem jJ6:aJ kp8 87 5 zw7 [.tmp 2]:=⟨Tryz.f87,_,[],Tryz.func87,rfl,rfl,rfl,by kernel_rfl,by kernel_rfl,by kernel_rfl⟩
noncomputable def zw8:aC:=aN [] (aT Tryz.f88)
theorem jJ7:aJ kp8 88 4 zw8 [.cell 2 126]:=⟨Tryz.f88,_,[],Tryz.func88,rfl,rfl,rfl,by kernel_rfl,by kernel_rfl,by kernel_rfl⟩
noncomputable def zw9:aC:=aN [] (aT Tryz.f90)
theorem jJ8:aJ kp8 90 5 zw9 [.tmp 2]:=⟨Tryz.f90,_,[],Tryz.func90,rfl,rfl,rfl,by kernel_rfl,by kernel_rfl,by kernel_rfl⟩
def z18:cO:=[(1,[([0,1,2,3,4,5,6],[(4,[0,1])])])]
noncomputable def zx0:aC:=aN z18 (aT Tryz.f91)
theorem jJ9:aJ kp8 91 9 zx0 [.cell 2 140]:=⟨Tryz.f91,_,z18,Tryz.func91,rfl,rfl,rfl,by kernel_rfl,by kernel_rfl,by kernel_rfl⟩
noncomputable def zx1:aC:=aN [] (aT Tryz.f93)
theorem jK0:aJ kp8 93 5 zx1 [.tmp 2]:=⟨Tryz.f93,_,[],Tryz.func93,rfl,rfl,rfl,by kernel_rfl,by kernel_rfl,by kernel_rfl⟩
def z19:cO:=[(2,[([0,1,2,3,4,5,7,8,9,10,11,12,6,13,14,15,16,17],[(6,[0,1,2,3,7,8,9,10,11,12]),(13,[0,1,2,3,7,8,9])])])]
noncomputable def zx2:aC:=aN z19 (aT Tryz.f94)
theorem jK1:aJ kp8 94 23 zx2 [.cell 2 161]:=⟨Tryz.f94,_,z19,Tryz.func94,rfl,rfl,rfl,by kernel_rfl,by kernel_rfl,by kernel_rfl⟩
noncomputable def zx3:aC:=aN [] (aT Tryz.f96)
theorem jK2:aJ kp8 96 5 zx3 [.tmp 2]:=⟨Tryz.f96,_,[],Tryz.func96,rfl,rfl,rfl,by kernel_rfl,by kernel_rfl,by kernel_rfl⟩
def z21:cO:=[(1,[([0,1,2,3,4,5,6,7,8,9,10,11],[(8,[0,1,2,3,4])])])]
noncomputable def zx4:aC:=aN z21 (aT Tryz.f97)
theorem jK3:aJ kp8 97 14 zx4 [.cell 2 162]:=⟨Tryz.f97,_,z21,Tryz.func97,rfl,rfl,rfl,by kernel_rfl,by kernel_rfl,by kernel_rfl⟩
noncomputable def zx5:aC:=aN [] (aT Tryz.f99)
theorem jK4:aJ kp8 99 50 zx5 [.tmp 5]:=⟨Tryz.f99,_,[],Tryz.func99,rfl,rfl,rfl,by kernel_rfl,by kernel_rfl,by kernel_rfl⟩
noncomputable def yV:aC:=aN [] (aT Tryz.f100)
theorem z22:aJ kp8 100 9 yV [.tmp 4]:=⟨Tryz.f100,_,[],Tryz.func100,rfl,rfl,rfl,by kernel_rfl,by kernel_rfl,by kernel_rfl⟩
noncomputable def zx6:aC:=aN [] (aT Tryz.f101)
theorem jK5:aJ kp8 101 30 zx6 [.cell 4 3]:=⟨Tryz.f101,_,[],Tryz.func101,rfl,rfl,rfl,by kernel_rfl,by kernel_rfl,by kernel_rfl⟩
noncomputable def zx7:aC:=aN [] (aT Tryz.f102)
theorem jK6:aJ kp8 102 10 zx7 [.tmp 2]:=⟨Tryz.f102,_,[],Tryz.func102,rfl,rfl,rfl,by kernel_rfl,by kernel_rfl,by kernel_rfl⟩
noncomputable def zx8:aC:=aN [] (aT Tryz.f103)
theorem jK7:aJ kp8 103 22 zx8 [.cell 4 87]:=⟨Tryz.f103,_,[],Tryz.func103,rfl,rfl,rfl,by kernel_rfl,by kernel_rfl,by kernel_rfl⟩
noncomputable def zx9:aC:=aN [] (aT Tryz.f106)
theorem jK8:aJ kp8 106 17 zx9 [.tmp 4]:=⟨Tryz.f106,_,[],Tryz.func106,rfl,rfl,rfl,by kernel_rfl,by kernel_rfl,by kernel_rfl⟩
noncomputable def zy0:aC:=aN [] (aT Tryz.f107)
theorem jK9:aJ kp8 107 13 zy0 [.cell 4 87]:=⟨Tryz.f107,_,[],Tryz.func107,rfl,rfl,rfl,by kernel_rfl,by kernel_rfl,by kernel_rfl⟩
def z23:cO:=[(5,[([0,1,2,3,4,5,6,7,8,9,10,11],[(9,[0,1,2,3])])]),(15,[([0,1,2,3,4,5,6,7,8,12,9,10,11,13,14,15],[(9,[0,1,2,3]),(13,
 [0,1,2,3])])]),(20,[([0,1,2,3,4,5,6,7,8,9,10,11,12],[(10,[0,1,2,3])])])]
noncomputable def yW:aC:=aN z23 (aT Tryz.f108)
theorem z24:aJ kp8 108 180 yW []:=⟨Tryz.f108,_,z23,Tryz.func108,rfl,rfl,rfl,by kernel_rfl,by kernel_rfl,by kernel_rfl⟩
def z25:cO:=[(1,[([0,1,2,3,5,6,7,8,9,4,10,11],[(4,[6,7,8,9])])])]
noncomputable def yX:aC:=aN z25 (aT Tryz.f109)
theorem z26:aJ kp8 109 14 yX [.tmp 2]:=⟨Tryz.f109,_,z25,Tryz.func109,rfl,rfl,rfl,by kernel_rfl,by kernel_rfl,by kernel_rfl⟩
noncomputable def zy1:aC:=aN [] (aT Tryz.f110)
theorem jL0:aJ kp8 110 9 zy1 []:=⟨Tryz.f110,_,[],Tryz.func110,rfl,rfl,rfl,by kernel_rfl,by kernel_rfl,by kernel_rfl⟩
noncomputable def zy2:aC:=aN [] (aT Tryz.f111)
theorem jL1:aJ kp8 111 13 zy2 [.tmp 2]:=⟨Tryz.f111,_,[],Tryz.func111,rfl,rfl,rfl,by kernel_rfl,by kernel_rfl,by kernel_rfl⟩
noncomputable def zy3:aC:=aN [] (aT Tryz.f119)
theorem jL2:aJ kp8 119 11 zy3 [.tmp 4]:=⟨Tryz.f119,_,[],Tryz.func119,rfl,rfl,rfl,by kernel_rfl,by kernel_rfl,by kernel_rfl⟩
def z27:cO:=[(1,[([0,1,3,4,2,5,6,7],[(2,[3,4])])])]
noncomputable def zy4:aC:=aN z27 (aT Tryz.f128)
theorem jL3:aJ kp8 128 13 zy4 [.tmp 5]:=⟨Tryz.f128,_,z27,Tryz.func128,rfl,rfl,rfl,by kernel_rfl,by kernel_rfl,by kernel_rfl⟩
noncomputable def zy5:aC:=aN [] (aT Tryz.f129)
theorem jL4:aJ kp8 129 8 zy5 [.tmp 4]:=⟨Tryz.f129,_,[],Tryz.func129,rfl,rfl,rfl,by kernel_rfl,by kernel_rfl,by kernel_rfl⟩
def z29:cO:=[(1,[([0,1,3,4,2,5,6,7],[(2,[3,4])])])]
noncomputable def zy6:aC:=aN z29 (aT Tryz.f132)
theorem jL5:aJ kp8 132 13 zy6 [.tmp 5]:=⟨Tryz.f132,_,z29,Tryz.func132,rfl,rfl,rfl,by kernel_rfl,by kernel_rfl,by kernel_rfl⟩
def z30:cO:=[(1,[([0,1,3,4,2,5,6,7],[(2,[3,4])])])]
noncomputable def zy7:aC:=aN z30 (aT Tryz.f135)
theorem jL6:aJ kp8 135 13 zy7 [.tmp 5]:=⟨Tryz.f135,_,z30,Tryz.func135,rfl,rfl,rfl,by kernel_rfl,by kernel_rfl,by kernel_rfl⟩
def z32:cO:=[(1,[([0,1,3,4,2,5,6,7],[(2,[3,4])])])]
noncomputable def zy8:aC:=aN z32 (aT Tryz.f138)
theorem jL7:aJ kp8 138 13 zy8 [.tmp 5]:=⟨Tryz.f138,_,z32,Tryz.func138,rfl,rfl,rfl,by kernel_rfl,by kernel_rfl,by kernel_rfl⟩
def z33:cO:=[(1,[([0,1,3,4,2,5,6,7],[(2,[3,4])])])]
noncomputable def zy9:aC:=aN z33 (aT Tryz.f141)
theorem jL8:aJ kp8 141 13 zy9 [.tmp 5]:=⟨Tryz.f141,_,z33,Tryz.func141,rfl,rfl,rfl,by kernel_rfl,by kernel_rfl,by kernel_rfl⟩
noncomputable def yY:aC:=aN [] (aT Tryz.f143)
theorem z34:aJ kp8 143 19 yY [.tmp 4]:=⟨Tryz.f143,_,[],Tryz.func143,rfl,rfl,rfl,by kernel_rfl,by kernel_rfl,by kernel_rfl⟩
noncomputable def zz0:aC:=aN [] (aT Tryz.f144)
theorem jL9:aJ kp8 144 4 zz0 [.tmp 2]:=⟨Tryz.f144,_,[],Tryz.func144,rfl,rfl,rfl,by kernel_rfl,by kernel_rfl,by kernel_rfl⟩
noncomputable def zz1:aC:=aN [] (aT Tryz.f145)
theorem jM0:aJ kp8 145 9 zz1 [.tmp 4]:=⟨Tryz.f145,_,[],Tryz.func145,rfl,rfl,rfl,by kernel_rfl,by kernel_rfl,by kernel_rfl⟩
noncomputable def yZ:aC:=aN [] (aT Tryz.f146)
theorem z35:aJ kp8 146 7 yZ [.tmp 3]:=⟨Tryz.f146,_,[],Tryz.func146,rfl,rfl,rfl,by kernel_rfl,by kernel_rfl,by kernel_rfl⟩
noncomputable def zz2:aC:=aN [] (aT Tryz.f147)
theorem jM1:aJ kp8 147 79 zz2 []:=⟨Tryz.f147,_,[],Tryz.func147,rfl,rfl,rfl,by kernel_rfl,by kernel_rfl,by kernel_rfl⟩
noncomputable def zz3:aC:=aN [] (aT Tryz.f149)
theorem jM2:aJ kp8 149 11 zz3 []:=⟨Tryz.f149,_,[],Tryz.func149,rfl,rfl,rfl,by kernel_rfl,by kernel_rfl,by kernel_rfl⟩
def z36:cO:=[(5,[([0,1,2,3,4,5,6,7,8],[(5,[0,1]),(7,[0,1,2,3,4])]),([0,1,2,3,4,7,5,6,8],[]),([0,1,2,3,4,7,5,6,8],[])]),(9,[([0,1,
 2,3,4,5,6,7,8,9,10,11,12],[(7,[0,1,2,3]),(9,[0,1])])]),(16,[([0,1,2,3,4,5,6,7,8,9,10,11,12,13,14,15,16,17],[(11,[0,1,2,3,4,5,6]),(14,
 [0,1])])]),(21,[([0,1,2,3,4,7,5,6,8,9,10,12,11,13],[(5,[0,1,7]),(8,[0,1,3,4,7]),(11,[12]),(13,[10])]),([0,1,2,3,4,7,5,6,8,9,10,12,13,
 11],[]),([0,1,2,3,4,7,8,5,6,9,10,12,11,13],[]),([0,1,2,3,4,7,8,5,6,9,10,12,13,11],[])]),(25,[([0,1,2,3,4,5,6,9,7,8,10,11,12,14,13,
 15],[(7,[0,1,2,3,9]),(10,[0,1,2,3,4,5,6,9]),(13,[14]),(15,[12])]),([0,1,2,3,4,5,6,9,7,8,10,11,12,14,15,13],[]),([0,1,2,3,4,5,6,9,10,
 7,8,11,12,14,13,15],[]),([0,1,2,3,4,5,6,9,10,7,8,11,12,14,15,13],[])]),(30,[([0,1,2,3,4,5,6,9,7,8,10,11,12,14,13,15],[(7,[0,1,2,3,
 9]),(10,[0,1,2,3,4,5,6,9]),(13,[14]),(15,[12])]),([0,1,2,3,4,5,6,9,7,8,10,11,12,14,15,13],[]),([0,1,2,3,4,5,6,9,10,7,8,11,12,14,13,
 15],[]),([0,1,2,3,4,5,6,9,10,7,8,11,12,14,15,13],[])])]
noncomputable def zz4:aC:=aN z36 (aT Tryz.f150)
theorem jM3:aJ kp8 150 146 zz4 [.cell 4 65]:=⟨Tryz.f150,_,z36,Tryz.func150,rfl,rfl,rfl,by kernel_rfl,by kernel_rfl,by kernel_rfl⟩
noncomputable def zz5:aC:=aN [] (aT Tryz.f154)
theorem jM4:aJ kp8 154 26 zz5 [.tmp 4]:=⟨Tryz.f154,_,[],Tryz.func154,rfl,rfl,rfl,by kernel_rfl,by kernel_rfl,by kernel_rfl⟩
noncomputable def zz6:aC:=aN [] (aT Tryz.f155)
theorem jM5:aJ kp8 155 38 zz6 [.tmp 4]:=⟨Tryz.f155,_,[],Tryz.func155,rfl,rfl,rfl,by kernel_rfl,by kernel_rfl,by kernel_rfl⟩
noncomputable def zz7:aC:=aN [] (aT Tryz.f156)
theorem jM6:aJ kp8 156 75 zz7 [.tmp 6]:=⟨Tryz.f156,_,[],Tryz.func156,rfl,rfl,rfl,by kernel_rfl,by kernel_rfl,by kernel_rfl⟩
noncomputable def zz8:aC:=aN [] (aT Tryz.f157)
theorem jM7:aJ kp8 157 8 zz8 []:=⟨Tryz.f157,_,[],Tryz.func157,rfl,rfl,rfl,by kernel_rfl,by kernel_rfl,by kernel_rfl⟩
def z38:cO:=[(5,[([0,1,2,3,4,5,6,7,8],[(5,[0,1]),(7,[0,1,2,3,4])]),([0,1,2,3,4,7,5,6,8],[]),([0,1,2,3,4,7,5,6,8],[])]),(13,[([0,1,
 2,3,4,5,6,7,8],[(4,[0,1]),(5,[0,1])])]),(22,[([0,1,2,3,4,5,6,7,8,9,10,11,12,13,14,15,16,17],[(11,[0,1,2,3,4,5,6]),(14,[0,1])])]),(27,
 [([0,1,2,3,4,7,5,6,8,9,10,12,11,13],[(5,[0,1,7]),(8,[0,1,3,4,7]),(11,[12]),(13,[10])]),([0,1,2,3,4,7,5,6,8,9,10,12,13,11],[]),([0,1,2,
 3,4,7,8,5,6,9,10,12,11,13],[]),([0,1,2,3,4,7,8,5,6,9,10,12,13,11],[])]),(33,[([0,1,2,3,4,5,6,7,8,9,11,10,12],[(7,[0,1,2,3,4,6]),
 (10,[11]),(12,[9])]),([0,1,2,3,4,5,6,7,8,9,11,12,10],[]),([0,1,2,3,4,5,6,7,8,9,11,12,10],[])]),(38,[([0,1,2,3,4,5,6,9,7,8,10,11,12,
 14,13,15],[(7,[0,1,2,3,9]),(10,[0,1,2,3,4,5,6,9]),(13,[14]),(15,[12])]),([0,1,2,3,4,5,6,9,7,8,10,11,12,14,15,13],[]),([0,1,2,3,4,5,6,
 9,10,7,8,11,12,14,13,15],[]),([0,1,2,3,4,5,6,9,10,7,8,11,12,14,15,13],[])])]
noncomputable def zz9:aC:=aN z38 (aT Tryz.f158)
theorem jM8:aJ kp8 158 167 zz9 [.cell 4 65]:=⟨Tryz.f158,_,z38,Tryz.func158,rfl,rfl,rfl,by kernel_rfl,by kernel_rfl,by kernel_rfl⟩
def z39:cO:=[(0,[([0,1,2,3,5,4,6,7,8],[(4,[1,2])])])]
noncomputable def zA:aC:=aN z39 (aT Tryz.f159)
theorem z40:aJ kp8 159 15 zA []:=⟨Tryz.f159,_,z39,Tryz.func159,rfl,rfl,rfl,by kernel_rfl,by kernel_rfl,by kernel_rfl⟩
noncomputable def zA0:aC:=aN [] (aT Tryz.f160)
theorem jM9:aJ kp8 160 9 zA0 [.tmp 4]:=⟨Tryz.f160,_,[],Tryz.func160,rfl,rfl,rfl,by kernel_rfl,by kernel_rfl,by kernel_rfl⟩
noncomputable def zA1:aC:=aN [] (aT Tryz.f162)
theorem jN0:aJ kp8 162 4 zA1 [.tmp 2]:=⟨Tryz.f162,_,[],Tryz.func162,rfl,rfl,rfl,by kernel_rfl,by kernel_rfl,by kernel_rfl⟩
noncomputable def zA2:aC:=aN [] (aT Tryz.f164)
theorem jN1:aJ kp8 164 6 zA2 []:=⟨Tryz.f164,_,[],Tryz.func164,rfl,rfl,rfl,by kernel_rfl,by kernel_rfl,by kernel_rfl⟩
noncomputable def zA3:aC:=aN [] (aT Tryz.f165)
theorem jN2:aJ kp8 165 8 zA3 [.tmp 2]:=⟨Tryz.f165,_,[],Tryz.func165,rfl,rfl,rfl,by kernel_rfl,by kernel_rfl,by kernel_rfl⟩
noncomputable def zA4:aC:=aN [] (aT Tryz.f167)
theorem jN3:aJ kp8 167 61 zA4 [.tmp 2]:=⟨Tryz.f167,_,[],Tryz.func167,rfl,rfl,rfl,by kernel_rfl,by kernel_rfl,by kernel_rfl⟩
noncomputable def zA5:aC:=aN [] (aT Tryz.f186)
theorem jN4:aJ kp8 186 20 zA5 [.tmp 4]:=⟨Tryz.f186,_,[],Tryz.func186,rfl,rfl,rfl,by kernel_rfl,by kernel_rfl,by kernel_rfl⟩
noncomputable def zA6:aC:=aN [] (aT Tryz.f194)
noncomputable def zA7:aC:=aN [] (aT Tryz.f195)
theorem jN5:aJ kp8 195 19 zA7 [.tmp 4]:=⟨Tryz.f195,_,[],Tryz.func195,rfl,rfl,rfl,by kernel_rfl,by kernel_rfl,by kernel_rfl⟩
noncomputable def zA8:aC:=aN [] (aT Tryz.f196)
theorem jN6:aJ kp8 196 40 zA8 []:=⟨Tryz.f196,_,[],Tryz.func196,rfl,rfl,rfl,by kernel_rfl,by kernel_rfl,by kernel_rfl⟩
noncomputable def zA9:aC:=aN [] (aT Tryz.f197)
theorem jN7:aJ kp8 197 17 zA9 []:=⟨Tryz.f197,_,[],Tryz.func197,rfl,rfl,rfl,by kernel_rfl,by kernel_rfl,by kernel_rfl⟩
noncomputable def zB0:aC:=aN [] (aT Tryz.f198)
theorem jN8:aJ kp8 198 9 zB0 []:=⟨Tryz.f198,_,[],Tryz.func198,rfl,rfl,rfl,by kernel_rfl,by kernel_rfl,by kernel_rfl⟩
def z41:cO:=[(0,[([0,1,2,3,4,5,6,7,8,9,10,11,12,13,14,15,16,17,18,19],[(16,[13])])])]
noncomputable def zB:aC:=aN z41 (aT Tryz.f199)
theorem z42:aJ kp8 199 20 zB []:=⟨Tryz.f199,_,z41,Tryz.func199,rfl,rfl,rfl,by kernel_rfl,by kernel_rfl,by kernel_rfl⟩
def z43:cO:=[(7,[([0,1,2,3,4,5,6,7],[(5,[0,1])])])]
noncomputable def zB1:aC:=aN z43 (aT Tryz.f200)
theorem jN9:aJ kp8 200 36 zB1 [.cell 4 32]:=⟨Tryz.f200,_,z43,Tryz.func200,rfl,rfl,rfl,by kernel_rfl,by kernel_rfl,by kernel_rfl⟩
noncomputable def zB2:aC:=aN [] (aT Tryz.f201)
theorem jO0:aJ kp8 201 22 zB2 [.tmp 4]:=⟨Tryz.f201,_,[],Tryz.func201,rfl,rfl,rfl,by kernel_rfl,by kernel_rfl,by kernel_rfl⟩
noncomputable def zB3:aC:=aN [] (aT Tryz.f202)
theorem jO1:aJ kp8 202 26 zB3 [.cell 4 89]:=⟨Tryz.f202,_,[],Tryz.func202,rfl,rfl,rfl,by kernel_rfl,by kernel_rfl,by kernel_rfl⟩
noncomputable def zB4:aC:=aN [] (aT Tryz.f207)
theorem jO2:aJ kp8 207 32 zB4 [.tmp 6]:=⟨Tryz.f207,_,[],Tryz.func207,rfl,rfl,rfl,by kernel_rfl,by kernel_rfl,by kernel_rfl⟩
noncomputable def zB5:aC:=aN [] (aT Tryz.f208)
theorem jO3:aJ kp8 208 24 zB5 [.tmp 4]:=⟨Tryz.f208,_,[],Tryz.func208,rfl,rfl,rfl,by kernel_rfl,by kernel_rfl,by kernel_rfl⟩
noncomputable def zB6:aC:=aN [] (aT Tryz.f209)
theorem jO4:aJ kp8 209 9 zB6 [.tmp 4]:=⟨Tryz.f209,_,[],Tryz.func209,rfl,rfl,rfl,by kernel_rfl,by kernel_rfl,by kernel_rfl⟩
noncomputable def zB7:aC:=aN [] (aT Tryz.f210)
theorem jO5:aJ kp8 210 32 zB7 [.tmp 6]:=⟨Tryz.f210,_,[],Tryz.func210,rfl,rfl,rfl,by kernel_rfl,by kernel_rfl,by kernel_rfl⟩
noncomputable def zB8:aC:=aN [] (aT Tryz.f211)
theorem jO6:aJ kp8 211 17 zB8 [.tmp 4]:=⟨Tryz.f211,_,[],Tryz.func211,rfl,rfl,rfl,by kernel_rfl,by kernel_rfl,by kernel_rfl⟩
noncomputable def zB9:aC:=aN [] (aT Tryz.f212)
theorem jO7:aJ kp8 212 8 zB9 [.tmp 4]:=⟨Tryz.f212,_,[],Tryz.func212,rfl,rfl,rfl,by kernel_rfl,by kernel_rfl,by kernel_rfl⟩
noncomputable def zC0:aC:=aN [] (aT Tryz.f213)
theorem jO8:aJ kp8 213 32 zC0 [.tmp 6]:=⟨Tryz.f213,_,[],Tryz.func213,rfl,rfl,rfl,by kernel_rfl,by kernel_rfl,by kernel_rfl⟩
noncomputable def zC1:aC:=aN [] (aT Tryz.f214)
theorem jO9:aJ kp8 214 17 zC1 [.tmp 4]:=⟨Tryz.f214,_,[],Tryz.func214,rfl,rfl,rfl,by kernel_rfl,by kernel_rfl,by kernel_rfl⟩
noncomputable def zC2:aC:=aN [] (aT Tryz.f215)
theorem jP0:aJ kp8 215 17 zC2 [.tmp 4]:=⟨Tryz.f215,_,[],Tryz.func215,rfl,rfl,rfl,by kernel_rfl,by kernel_rfl,by kernel_rfl⟩
noncomputable def zC3:aC:=aN [] (aT Tryz.f216)
theorem jP1:aJ kp8 216 32 zC3 [.tmp 6]:=⟨Tryz.f216,_,[],Tryz.func216,rfl,rfl,rfl,by kernel_rfl,by kernel_rfl,by kernel_rfl⟩
noncomputable def zC4:aC:=aN [] (aT Tryz.f217)
theorem jP2:aJ kp8 217 17 zC4 [.tmp 4]:=⟨Tryz.f217,_,[],Tryz.func217,rfl,rfl,rfl,by kernel_rfl,by kernel_rfl,by kernel_rfl⟩
noncomputable def zC5:aC:=aN [] (aT Tryz.f218)
theorem jP3:aJ kp8 218 32 zC5 [.tmp 6]:=⟨Tryz.f218,_,[],Tryz.func218,rfl,rfl,rfl,by kernel_rfl,by kernel_rfl,by kernel_rfl⟩
noncomputable def zC6:aC:=aN [] (aT Tryz.f219)
theorem jP4:aJ kp8 219 37 zC6 [.tmp 4]:=⟨Tryz.f219,_,[],Tryz.func219,rfl,rfl,rfl,by kernel_rfl,by kernel_rfl,by kernel_rfl⟩
noncomputable def zC7:aC:=aN [] (aT Tryz.f220)
theorem jP5:aJ kp8 220 32 zC7 [.tmp 6]:=⟨Tryz.f220,_,[],Tryz.func220,rfl,rfl,rfl,by kernel_rfl,by kernel_rfl,by kernel_rfl⟩
noncomputable def zC8:aC:=aN [] (aT Tryz.f221)
theorem jP6:aJ kp8 221 17 zC8 [.tmp 4]:=⟨Tryz.f221,_,[],Tryz.func221,rfl,rfl,rfl,by kernel_rfl,by kernel_rfl,by kernel_rfl⟩
def z44:cO:=[(7,[([0,1,2,3,4,5,6,7],[(5,[0,1])])])]
noncomputable def zC9:aC:=aN z44 (aT Tryz.f222)
theorem jP7:aJ kp8 222 36 zC9 [.cell 4 32]:=⟨Tryz.f222,_,z44,Tryz.func222,rfl,rfl,rfl,by kernel_rfl,by kernel_rfl,by kernel_rfl⟩
def z45:cO:=[(0,[([0,1,2,3,5,6,7,8,4,10,9,11,12,13],[(4,[5,6,7,8]),(9,[10])])])]
noncomputable def zD0:aC:=aN z45 (aT Tryz.f223)
theorem jP8:aJ kp8 223 15 zD0 []:=⟨Tryz.f223,_,z45,Tryz.func223,rfl,rfl,rfl,by kernel_rfl,by kernel_rfl,by kernel_rfl⟩
noncomputable def zC:aC:=aN [] (aT Tryz.f224)
theorem z47:aJ kp8 224 19 zC [.tmp 4,.tmp 5]:=⟨Tryz.f224,_,[],Tryz.func224,rfl,rfl,rfl,by kernel_rfl,by kernel_rfl,by kernel_rfl⟩
def z48:cO:=[(16,[([0,1,2,3,4,5,6,7,8,9,10,11],[(8,[0,1,2,3,4,5,6,7]),(9,[0,1,2,3,4,5,6,7]),(10,[4,5,6,7])]),([0,1,2,3,4,5,6,7,
 9,8,10,11],[]),([0,1,2,3,4,5,6,7,9,8,10,11],[])]),(19,[([0,1,2,3,6,4,5,7,8,9],[(4,[6])])]),(21,[([0,1,2,3,6,7,8,9,4,5,10,11,12,13,14,
 15,16,17],[(4,[6,7,8])])])]
noncomputable def zD1:aC:=aN z48 (aT Tryz.f226)
theorem jP9:aJ kp8 226 74 zD1 [.tmp 2]:=⟨Tryz.f226,_,z48,Tryz.func226,rfl,rfl,rfl,by kernel_rfl,by kernel_rfl,by kernel_rfl⟩
def z49:cO:=[(14,[([0,1,2,3,4,5,6,7],[(5,[0,1])])])]
noncomputable def zD2:aC:=aN z49 (aT Tryz.f227)
theorem jQ0:aJ kp8 227 60 zD2 [.cell 4 32]:=⟨Tryz.f227,_,z49,Tryz.func227,rfl,rfl,rfl,by kernel_rfl,by kernel_rfl,by kernel_rfl⟩
noncomputable def zg5:aC:=aN [] (aT Tryz.f229)
noncomputable def zD:aC:=aN [] (aT Tryz.f230)
theorem z50:aJ kp8 230 11 zD []:=⟨Tryz.f230,_,[],Tryz.func230,rfl,rfl,rfl,by kernel_rfl,by kernel_rfl,by kernel_rfl⟩
noncomputable def zD3:aC:=aN [] (aT Tryz.f240)
theorem jQ1:aJ kp8 240 6 zD3 [.tmp 2]:=⟨Tryz.f240,_,[],Tryz.func240,rfl,rfl,rfl,by kernel_rfl,by kernel_rfl,by kernel_rfl⟩
noncomputable def zD4:aC:=aN [] (aT Tryz.f249)
theorem jQ2:aJ kp8 249 5 zD4 [.tmp 2]:=⟨Tryz.f249,_,[],Tryz.func249,rfl,rfl,rfl,by kernel_rfl,by kernel_rfl,by kernel_rfl⟩
noncomputable def zD5:aC:=aN [] (aT Tryz.f250)
theorem jQ3:aJ kp8 250 16 zD5 []:=⟨Tryz.f250,_,[],Tryz.func250,rfl,rfl,rfl,by kernel_rfl,by kernel_rfl,by kernel_rfl⟩
noncomputable def zD6:aC:=aN [] (aT Tryz.f251)
theorem jQ4:aJ kp8 251 10 zD6 []:=⟨Tryz.f251,_,[],Tryz.func251,rfl,rfl,rfl,by kernel_rfl,by kernel_rfl,by kernel_rfl⟩
noncomputable def jQ5:aC:=aN [] (aT Tryz.f252)
theorem jQ6:aJ kp8 252 8 jQ5 [.tmp 2]:=⟨Tryz.f252,_,[],Tryz.func252,rfl,rfl,rfl,by kernel_rfl,by kernel_rfl,by kernel_rfl⟩
def z52:cO:=[(0,[([0,1,2,3,5,6,7,4,8,9,10],[(4,[5,6,7])])])]
noncomputable def zD7:aC:=aN z52 (aT Tryz.f253)
theorem jQ7:aJ kp8 253 15 zD7 []:=⟨Tryz.f253,_,z52,Tryz.func253,rfl,rfl,rfl,by kernel_rfl,by kernel_rfl,by kernel_rfl⟩
def z54:cO:=[(1,[([0,1,2,3,5,6,7,8,10,11,12,13,14,15,17,18,19,20,4,9,16,21,22,23,24],[(4,[5,6,7,8,10,11,12,13,14,15,17,18,19,20]),
 (9,[10,11,12,13,14,15,17,18,19,20]),(16,[17,18,19,20])])])]
noncomputable def zD8:aC:=aN z54 (aT Tryz.f256)
theorem jQ8:aJ kp8 256 29 zD8 [.tmp 4]:=⟨Tryz.f256,_,z54,Tryz.func256,rfl,rfl,rfl,by kernel_rfl,by kernel_rfl,by kernel_rfl⟩
noncomputable def zD9:aC:=aN [] (aT Tryz.f257)
theorem jQ9:aJ kp8 257 32 zD9 [.tmp 6]:=⟨Tryz.f257,_,[],Tryz.func257,rfl,rfl,rfl,by kernel_rfl,by kernel_rfl,by kernel_rfl⟩
noncomputable def zE0:aC:=aN [] (aT Tryz.f258)
theorem jR0:aJ kp8 258 60 zE0 [.cell 4 3]:=⟨Tryz.f258,_,[],Tryz.func258,rfl,rfl,rfl,by kernel_rfl,by kernel_rfl,by kernel_rfl⟩
noncomputable def zE:aC:=aN [] (aT Tryz.f259)
theorem z55:aJ kp8 259 20 zE []:=⟨Tryz.f259,_,[],Tryz.func259,rfl,rfl,rfl,by kernel_rfl,by kernel_rfl,by kernel_rfl⟩
noncomputable def zE1:aC:=aN [] (aT Tryz.f264)
theorem jR1:aJ kp8 264 21 zE1 [.tmp 2]:=⟨Tryz.f264,_,[],Tryz.func264,rfl,rfl,rfl,by kernel_rfl,by kernel_rfl,by kernel_rfl⟩
noncomputable def zE2:aC:=aN [] (aT Tryz.f265)
theorem jR2:aJ kp8 265 18 zE2 [.tmp 4]:=⟨Tryz.f265,_,[],Tryz.func265,rfl,rfl,rfl,by kernel_rfl,by kernel_rfl,by kernel_rfl⟩
noncomputable def zE3:aC:=aN [] (aT Tryz.f283)
theorem jR3:aJ kp8 283 17 zE3 [.tmp 4]:=⟨Tryz.f283,_,[],Tryz.func283,rfl,rfl,rfl,by kernel_rfl,by kernel_rfl,by kernel_rfl⟩
noncomputable def zE4:aC:=aN [] (aT Tryz.f284)
theorem jR4:aJ kp8 284 18 zE4 [.tmp 2]:=⟨Tryz.f284,_,[],Tryz.func284,rfl,rfl,rfl,by kernel_rfl,by kernel_rfl,by kernel_rfl⟩
noncomputable def zE5:aC:=aN [] (aT Tryz.f285)
theorem jR5:aJ kp8 285 20 zE5 [.tmp 4]:=⟨Tryz.f285,_,[],Tryz.func285,rfl,rfl,rfl,by kernel_rfl,by kernel_rfl,by kernel_rfl⟩
noncomputable def zE6:aC:=aN [] (aT Tryz.f286)
theorem jR6:aJ kp8 286 39 zE6 [.tmp 6]:=⟨Tryz.f286,_,[],Tryz.func286,rfl,rfl,rfl,by kernel_rfl,by kernel_rfl,by kernel_rfl⟩
noncomputable def zE7:aC:=aN [] (aT Tryz.f287)
theorem jR7:aJ kp8 287 4 zE7 [.tmp 2]:=⟨Tryz.f287,_,[],Tryz.func287,rfl,rfl,rfl,by kernel_rfl,by kernel_rfl,by kernel_rfl⟩
noncomputable def zE8:aC:=aN [] (aT Tryz.f305)
theorem jR8:aJ kp8 305 20 zE8 []:=⟨Tryz.f305,_,[],Tryz.func305,rfl,rfl,rfl,by kernel_rfl,by kernel_rfl,by kernel_rfl⟩
def z56:cO:=[(2,[([0,1,2,3,4,5,6,7,8,9,10,11],[(7,[2,3,4])])])]
noncomputable def zE9:aC:=aN z56 (aT Tryz.f306)
theorem jR9:aJ kp8 306 32 zE9 []:=⟨Tryz.f306,_,z56,Tryz.func306,rfl,rfl,rfl,by kernel_rfl,by kernel_rfl,by kernel_rfl⟩
noncomputable def zF0:aC:=aN [] (aT Tryz.f307)
open And renaming intro→ai
def oS0:=Bx.mk <| ai @zZ7 (ai bt3 (ai jE5 (ai jE6 (ai jE7 (ai jE8 (ai jE9 (ai jF0 (ai jF1 (ai jF2 (ai zZ8 (ai jF3 (ai jF4 (ai jF5 (ai jG1 (ai jG2 (ai jG3 (ai jG4 (ai jG5 (ai jG6 (ai jG7 (ai zZ9 (ai jG8 (ai jG9 (ai jH0 (ai jH1 (ai (fun {T h K x}=>cQ (T:=T) (h:=h) (K:=K) (x:=x) ti3) (ai (fun {T h K x}=>cQ (T:=T) (h:=h) (K:=K) (x:=x) ti9) (ai (fun {T h K x}=>cQ (T:=T) (h:=h) (K:=K) (x:=x) kZ) (ai (fun {T h K x}=>cQ (T:=T) (h:=h) (K:=K) (x:=x) kG) (ai (fun {T h K x}=>cQ (T:=T) (h:=h) (K:=K) (x:=x) zu8) (ai (fun {T h K x}=>cQ (T:=T) (h:=h) (K:=K) (x:=x) pT) (ai (fun {T h K x}=>cQ (T:=T) (h:=h) (K:=K) (x:=x) pU) (ai (fun {T h K x}=>cQ (T:=T) (h:=h) (K:=K) (x:=x) nI) (ai (fun {T h K x}=>cQ (T:=T) (h:=h) (K:=K) (x:=x) pV) (ai (fun {T h K x}=>cQ (T:=T) (h:=h) (K:=K) (x:=x) pW) (ai (fun {T h K x}=>cQ (T:=T) (h:=h) (K:=K) (x:=x) kI) (ai (fun {T h K x}=>cQ (T:=T) (h:=h) (K:=K) (x:=x) tQ) (ai (fun {T h K x}=>cQ (T:=T) (h:=h) (K:=K) (x:=x) iM) (fun {T h K x}=>cQ (T:=T) (h:=h) (K:=K) (x:=x) nJ)))))))))))))))))))))))))))))))))))))))
def oS1:=Bx.mk <| ai (fun {T h K x}=>cQ (T:=T) (h:=h) (K:=K) (x:=x) rP) (ai (fun {T h K x}=>cQ (T:=T) (h:=h) (K:=K) (x:=x) rQ) (ai (fun {T h K x}=>cQ (T:=T) (h:=h) (K:=K) (x:=x) rR) (ai (fun {T h K x}=>cQ (T:=T) (h:=h) (K:=K) (x:=x) mI) (ai (fun {T h K x}=>cQ (T:=T) (h:=h) (K:=K) (x:=x) wA) (ai (fun {T h K x}=>cQ (T:=T) (h:=h) (K:=K) (x:=x) rS) (ai (fun {T h K x}=>cQ (T:=T) (h:=h) (K:=K) (x:=x) rT) (ai (fun {T h K x}=>cQ (T:=T) (h:=h) (K:=K) (x:=x) jH2) (ai (fun {T h K x}=>cQ (T:=T) (h:=h) (K:=K) (x:=x) jH3) (ai (fun {T h K x}=>cQ (T:=T) (h:=h) (K:=K) (x:=x) jH4) (ai (fun {T h K x}=>cQ (T:=T) (h:=h) (K:=K) (x:=x) jH5) (ai (fun {T h K x}=>cQ (T:=T) (h:=h) (K:=K) (x:=x) jH6) (ai (fun {T h K x}=>cQ (T:=T) (h:=h) (K:=K) (x:=x) pX) (ai (fun {T h K x}=>cQ (T:=T) (h:=h) (K:=K) (x:=x) zu9) (ai (fun {T h K x}=>cQ (T:=T) (h:=h) (K:=K) (x:=x) tR) (ai (fun {T h K x}=>cQ (T:=T) (h:=h) (K:=K) (x:=x) jH7) (ai (fun {T h K x}=>cQ (T:=T) (h:=h) (K:=K) (x:=x) nK) (ai (fun {T h K x}=>cQ (T:=T) (h:=h) (K:=K) (x:=x) jH8) (ai (fun {T h K x}=>cQ (T:=T) (h:=h) (K:=K) (x:=x) yT) (ai (fun {T h K x}=>cQ (T:=T) (h:=h) (K:=K) (x:=x) wB) (ai (fun {T h K x}=>cQ (T:=T) (h:=h) (K:=K) (x:=x) jI0) (ai (fun {T h K x}=>cQ (T:=T) (h:=h) (K:=K) (x:=x) z07) (ai (fun {T h K op yt x y}=>vQ (T:=T) (h:=h) (K:=K) (op:=op) (yt:=yt) (x:=x) (y:=y) ti3) (ai (fun {T h K op yt x y}=>vQ (T:=T) (h:=h) (K:=K) (op:=op) (yt:=yt) (x:=x) (y:=y) ti4) (ai (fun {T h K op yt x y}=>vQ (T:=T) (h:=h) (K:=K) (op:=op) (yt:=yt) (x:=x) (y:=y) ti5) (ai (fun {T h K op yt x y}=>vQ (T:=T) (h:=h) (K:=K) (op:=op) (yt:=yt) (x:=x) (y:=y) ti9) (ai (fun {T h K op yt x y}=>vQ (T:=T) (h:=h) (K:=K) (op:=op) (yt:=yt) (x:=x) (y:=y) yT) (ai (fun {T h K}=>nF (T:=T) (h:=h) (K:=K) ti3) (ai (fun {T h K}=>nF (T:=T) (h:=h) (K:=K) kG) (ai (fun {T h K}=>nF (T:=T) (h:=h) (K:=K) kI) (ai (fun {T h K}=>nF (T:=T) (h:=h) (K:=K) nJ) (ai (fun {T h K}=>nF (T:=T) (h:=h) (K:=K) rP) (ai (fun {T h K}=>nF (T:=T) (h:=h) (K:=K) rQ) (ai (fun {T h K}=>nF (T:=T) (h:=h) (K:=K) rR) (ai (fun {T h K}=>nF (T:=T) (h:=h) (K:=K) mI) (ai (fun {T h K}=>nF (T:=T) (h:=h) (K:=K) wA) (ai (fun {T h K}=>nF (T:=T) (h:=h) (K:=K) rS) (ai (fun {T h K}=>nF (T:=T) (h:=h) (K:=K) rT) (ai (fun {T h K}=>nF (T:=T) (h:=h) (K:=K) pX) (fun {T h K p x}=>dR (T:=T) (h:=h) (K:=K) (p:=p) (x:=x) ti3)))))))))))))))))))))))))))))))))))))))
def oS2:=Bx.mk <| ai (fun {T h K p x}=>dR (T:=T) (h:=h) (K:=K) (p:=p) (x:=x) kZ) (ai (fun {T h K p x}=>dR (T:=T) (h:=h) (K:=K) (p:=p) (x:=x) kG) (ai (fun {T h K p x}=>dR (T:=T) (h:=h) (K:=K) (p:=p) (x:=x) pT) (ai (fun {T h K p x}=>dR (T:=T) (h:=h) (K:=K) (p:=p) (x:=x) pU) (ai (fun {T h K p x}=>dR (T:=T) (h:=h) (K:=K) (p:=p) (x:=x) nI) (ai (fun {T h K p x}=>dR (T:=T) (h:=h) (K:=K) (p:=p) (x:=x) pV) (ai (fun {T h K p x}=>dR (T:=T) (h:=h) (K:=K) (p:=p) (x:=x) pW) (ai (fun {T h K p x}=>dR (T:=T) (h:=h) (K:=K) (p:=p) (x:=x) kI) (ai (fun {T h K p x}=>dR (T:=T) (h:=h) (K:=K) (p:=p) (x:=x) tQ) (ai (fun {T h K p x}=>dR (T:=T) (h:=h) (K:=K) (p:=p) (x:=x) iM) (ai (fun {T h K p x}=>dR (T:=T) (h:=h) (K:=K) (p:=p) (x:=x) nJ) (ai (fun {T h K p x}=>dR (T:=T) (h:=h) (K:=K) (p:=p) (x:=x) rP) (ai (fun {T h K p x}=>dR (T:=T) (h:=h) (K:=K) (p:=p) (x:=x) rQ) (ai (fun {T h K p x}=>dR (T:=T) (h:=h) (K:=K) (p:=p) (x:=x) rR) (ai (fun {T h K p x}=>dR (T:=T) (h:=h) (K:=K) (p:=p) (x:=x) mI) (ai (fun {T h K p x}=>dR (T:=T) (h:=h) (K:=K) (p:=p) (x:=x) wA) (ai (fun {T h K p x}=>dR (T:=T) (h:=h) (K:=K) (p:=p) (x:=x) rS) (ai (fun {T h K p x}=>dR (T:=T) (h:=h) (K:=K) (p:=p) (x:=x) rT) (ai (fun {T h K p x}=>dR (T:=T) (h:=h) (K:=K) (p:=p) (x:=x) pX) (ai (fun {T h K p x}=>dR (T:=T) (h:=h) (K:=K) (p:=p) (x:=x) zu9) (ai (fun {T h K p x}=>dR (T:=T) (h:=h) (K:=K) (p:=p) (x:=x) tR) (ai (fun {T h K p x}=>dR (T:=T) (h:=h) (K:=K) (p:=p) (x:=x) nK) (ai (fun {T h K p x}=>dR (T:=T) (h:=h) (K:=K) (p:=p) (x:=x) yT) (ai (fun {T h K p x}=>dR (T:=T) (h:=h) (K:=K) (p:=p) (x:=x) wB) (ai (fun {T h K x f}=>iZ (T:=T) (h:=h) (K:=K) (x:=x) (f:=f) kG rfl) (ai (fun {T h K x f}=>iZ (T:=T) (h:=h) (K:=K) (x:=x) (f:=f) zu8 rfl) (ai (fun {T h K x f}=>iZ (T:=T) (h:=h) (K:=K) (x:=x) (f:=f) kI rfl) (ai (fun {T h K x f}=>iZ (T:=T) (h:=h) (K:=K) (x:=x) (f:=f) nJ rfl) (ai (fun {T h K x f}=>iZ (T:=T) (h:=h) (K:=K) (x:=x) (f:=f) rP rfl) (ai (fun {T h K x f}=>iZ (T:=T) (h:=h) (K:=K) (x:=x) (f:=f) rQ rfl) (ai (fun {T h K x f}=>iZ (T:=T) (h:=h) (K:=K) (x:=x) (f:=f) rR rfl) (ai (fun {T h K x f}=>iZ (T:=T) (h:=h) (K:=K) (x:=x) (f:=f) mI rfl) (ai (fun {T h K x f}=>iZ (T:=T) (h:=h) (K:=K) (x:=x) (f:=f) wA rfl) (ai (fun {T h K x f}=>iZ (T:=T) (h:=h) (K:=K) (x:=x) (f:=f) rS rfl) (ai (fun {T h K x f}=>iZ (T:=T) (h:=h) (K:=K) (x:=x) (f:=f) rT rfl) (ai (fun {T h K x f}=>iZ (T:=T) (h:=h) (K:=K) (x:=x) (f:=f) z01 rfl) (ai (fun {T h K x f}=>iZ (T:=T) (h:=h) (K:=K) (x:=x) (f:=f) z02 rfl) (ai (fun {T h K x f}=>iZ (T:=T) (h:=h) (K:=K) (x:=x) (f:=f) z03 rfl) (ai (fun {T h K x f}=>iZ (T:=T) (h:=h) (K:=K) (x:=x) (f:=f) jH9 rfl) (fun {T h K x f}=>iZ (T:=T) (h:=h) (K:=K) (x:=x) (f:=f) z04 rfl)))))))))))))))))))))))))))))))))))))))
def oS3:=Bx.mk <| ai (fun {T h K x f}=>iZ (T:=T) (h:=h) (K:=K) (x:=x) (f:=f) z05 rfl) (ai (fun {T h K x f}=>iZ (T:=T) (h:=h) (K:=K) (x:=x) (f:=f) z06 rfl) (ai (fun {T h K x f}=>iZ (T:=T) (h:=h) (K:=K) (x:=x) (f:=f) z08 rfl) (ai (fun {T h K x f}=>iZ (T:=T) (h:=h) (K:=K) (x:=x) (f:=f) z12 rfl) (ai (fun {T h K ps}=>jH (T:=T) (h:=h) (K:=K) (ps:=ps) kG) (ai (fun {T h K ps}=>jH (T:=T) (h:=h) (K:=K) (ps:=ps) zu8) (ai (fun {T h K ps}=>jH (T:=T) (h:=h) (K:=K) (ps:=ps) kI) (ai (fun {T h K ps}=>jH (T:=T) (h:=h) (K:=K) (ps:=ps) nJ) (ai (fun {T h K ps}=>jH (T:=T) (h:=h) (K:=K) (ps:=ps) rP) (ai (fun {T h K ps}=>jH (T:=T) (h:=h) (K:=K) (ps:=ps) rQ) (ai (fun {T h K ps}=>jH (T:=T) (h:=h) (K:=K) (ps:=ps) rR) (ai (fun {T h K ps}=>jH (T:=T) (h:=h) (K:=K) (ps:=ps) mI) (ai (fun {T h K ps}=>jH (T:=T) (h:=h) (K:=K) (ps:=ps) wA) (ai (fun {T h K ps}=>jH (T:=T) (h:=h) (K:=K) (ps:=ps) rS) (ai (fun {T h K ps}=>jH (T:=T) (h:=h) (K:=K) (ps:=ps) rT) (ai (fun {T h K ps}=>jH (T:=T) (h:=h) (K:=K) (ps:=ps) z01) (ai (fun {T h K ps}=>jH (T:=T) (h:=h) (K:=K) (ps:=ps) z02) (ai (fun {T h K ps}=>jH (T:=T) (h:=h) (K:=K) (ps:=ps) z03) (ai (fun {T h K ps}=>jH (T:=T) (h:=h) (K:=K) (ps:=ps) z04) (ai (fun {T h K ps}=>jH (T:=T) (h:=h) (K:=K) (ps:=ps) z05) (ai (fun {T h K ps}=>jH (T:=T) (h:=h) (K:=K) (ps:=ps) z06) (ai (fun {T h K ps}=>jH (T:=T) (h:=h) (K:=K) (ps:=ps) z08) (ai (fun {T h K ps}=>jH (T:=T) (h:=h) (K:=K) (ps:=ps) z12) (ai (fun {T h K x}=>jU (T:=T) (h:=h) (K:=K) (x:=x) ti9) (ai (fun {T h K x}=>jU (T:=T) (h:=h) (K:=K) (x:=x) kZ) (ai (fun {T h K x}=>jU (T:=T) (h:=h) (K:=K) (x:=x) pT) (ai (fun {T h K x}=>jU (T:=T) (h:=h) (K:=K) (x:=x) pU) (ai (fun {T h K x}=>jU (T:=T) (h:=h) (K:=K) (x:=x) nI) (ai (fun {T h K x}=>jU (T:=T) (h:=h) (K:=K) (x:=x) pV) (ai (fun {T h K x}=>jU (T:=T) (h:=h) (K:=K) (x:=x) pW) (ai (fun {T h K x}=>jU (T:=T) (h:=h) (K:=K) (x:=x) tQ) (ai (fun {T h K x}=>jU (T:=T) (h:=h) (K:=K) (x:=x) iM) (ai (fun {T h K x}=>jU (T:=T) (h:=h) (K:=K) (x:=x) tR) (ai (fun {T h K x}=>jU (T:=T) (h:=h) (K:=K) (x:=x) nK) (ai (fun {T h K x}=>jU (T:=T) (h:=h) (K:=K) (x:=x) wB) (ai (fun {T h K x}=>jU (T:=T) (h:=h) (K:=K) (x:=x) zv0) (ai (fun {T h K x ix}=>iL (T:=T) (h:=h) (K:=K) (x:=x) (ix:=ix) kZ rfl) (ai (fun {T h K x ix}=>iL (T:=T) (h:=h) (K:=K) (x:=x) (ix:=ix) pT rfl) (ai (fun {T h K x ix}=>iL (T:=T) (h:=h) (K:=K) (x:=x) (ix:=ix) pU rfl) (fun {T h K x ix}=>iL (T:=T) (h:=h) (K:=K) (x:=x) (ix:=ix) nI rfl)))))))))))))))))))))))))))))))))))))))
def oS4:=Bx.mk <| ai (fun {T h K x ix}=>iL (T:=T) (h:=h) (K:=K) (x:=x) (ix:=ix) pV rfl) (ai (fun {T h K x ix}=>iL (T:=T) (h:=h) (K:=K) (x:=x) (ix:=ix) pW rfl) (ai (fun {T h K x ix}=>iL (T:=T) (h:=h) (K:=K) (x:=x) (ix:=ix) tQ rfl) (ai (fun {T h K x ix}=>iL (T:=T) (h:=h) (K:=K) (x:=x) (ix:=ix) iM rfl) (ai (fun {T h K x ix}=>iL (T:=T) (h:=h) (K:=K) (x:=x) (ix:=ix) tR rfl) (ai (fun {T h K x ix}=>iL (T:=T) (h:=h) (K:=K) (x:=x) (ix:=ix) nK rfl) (ai (fun {T h K x ix}=>iL (T:=T) (h:=h) (K:=K) (x:=x) (ix:=ix) zv0 rfl) (ai (fun {T h K n ps}=>lQ (T:=T) (h:=h) (K:=K) (n:=n) (ps:=ps) kZ rfl) (ai (fun {T h K n ps}=>lQ (T:=T) (h:=h) (K:=K) (n:=n) (ps:=ps) z00 rfl) (ai (fun {T h K n ps}=>lQ (T:=T) (h:=h) (K:=K) (n:=n) (ps:=ps) pT rfl) (ai (fun {T h K n ps}=>lQ (T:=T) (h:=h) (K:=K) (n:=n) (ps:=ps) pU rfl) (ai (fun {T h K n ps}=>lQ (T:=T) (h:=h) (K:=K) (n:=n) (ps:=ps) nI rfl) (ai (fun {T h K n ps}=>lQ (T:=T) (h:=h) (K:=K) (n:=n) (ps:=ps) pV rfl) (ai (fun {T h K n ps}=>lQ (T:=T) (h:=h) (K:=K) (n:=n) (ps:=ps) pW rfl) (ai (fun {T h K n ps}=>lQ (T:=T) (h:=h) (K:=K) (n:=n) (ps:=ps) tQ rfl) (ai (fun {T h K n ps}=>lQ (T:=T) (h:=h) (K:=K) (n:=n) (ps:=ps) iM rfl) (ai (fun {T h K n ps}=>lQ (T:=T) (h:=h) (K:=K) (n:=n) (ps:=ps) tR rfl) (ai (fun {T h K n ps}=>lQ (T:=T) (h:=h) (K:=K) (n:=n) (ps:=ps) nK rfl) (ai (fun {T h K n ps}=>lQ (T:=T) (h:=h) (K:=K) (n:=n) (ps:=ps) wB rfl) (ai (fun {T h K n ps}=>lQ (T:=T) (h:=h) (K:=K) (n:=n) (ps:=ps) zv0 rfl) (ai (fun {T h K s x}=>mH (T:=T) (h:=h) (K:=K) (s:=s) (x:=x) kZ rfl) (ai (fun {T h K s x}=>mH (T:=T) (h:=h) (K:=K) (s:=s) (x:=x) z00 rfl) (ai (fun {T h K s x}=>mH (T:=T) (h:=h) (K:=K) (s:=s) (x:=x) pT rfl) (ai (fun {T h K s x}=>mH (T:=T) (h:=h) (K:=K) (s:=s) (x:=x) pU rfl) (ai (fun {T h K s x}=>mH (T:=T) (h:=h) (K:=K) (s:=s) (x:=x) nI rfl) (ai (fun {T h K s x}=>mH (T:=T) (h:=h) (K:=K) (s:=s) (x:=x) pV rfl) (ai (fun {T h K s x}=>mH (T:=T) (h:=h) (K:=K) (s:=s) (x:=x) pW rfl) (ai (fun {T h K s x}=>mH (T:=T) (h:=h) (K:=K) (s:=s) (x:=x) tQ rfl) (ai (fun {T h K s x}=>mH (T:=T) (h:=h) (K:=K) (s:=s) (x:=x) iM rfl) (ai (fun {T h K s x}=>mH (T:=T) (h:=h) (K:=K) (s:=s) (x:=x) tR rfl) (ai (fun {T h K s x}=>mH (T:=T) (h:=h) (K:=K) (s:=s) (x:=x) nK rfl) (ai (fun {T h K s x}=>mH (T:=T) (h:=h) (K:=K) (s:=s) (x:=x) wB rfl) (ai (fun {T h K x f}=>jB5 (T:=T) (h:=h) (K:=K) (x:=x) (f:=f) nJ) (ai (fun {T h K x lo hi}=>zs1 (T:=T) (h:=h) (K:=K) (x:=x) (lo:=lo) (hi:=hi) iM) (ai (fun {T h K x lo hi}=>zs1 (T:=T) (h:=h) (K:=K) (x:=x) (lo:=lo) (hi:=hi) tR) (ai (fun {T h K x lo hi}=>zs1 (T:=T) (h:=h) (K:=K) (x:=x) (lo:=lo) (hi:=hi) nK) (ai (fun {T h K yt x}=>zs3 (T:=T) (h:=h) (K:=K) (yt:=yt) (x:=x) kZ rfl) (ai (fun {T h K yt x}=>zs3 (T:=T) (h:=h) (K:=K) (yt:=yt) (x:=x) iM rfl) (ai (fun {T h K x}=>zs2 (T:=T) (h:=h) (K:=K) (x:=x) ti3 ti5 rfl) (fun {T h K x}=>zs2 (T:=T) (h:=h) (K:=K) (x:=x) ti3 zv1 rfl)))))))))))))))))))))))))))))))))))))))
def oS5:=Bx.mk <| ai (fun {T h K x}=>zs2 (T:=T) (h:=h) (K:=K) (x:=x) zv1 ti3 rfl) (fun {T h K op yt x y}=>vQ (T:=T) (h:=h) (K:=K) (op:=op) (yt:=yt) (x:=x) (y:=y) zv1)
def oS:=Bx.mk <| ai bV.d <| ai oS0.d (ai oS1.d (ai oS2.d (ai oS3.d (ai oS4.d oS5.d))))
def mJ (tS tE:TypeId):aC:=(aC.ops [VOp.mk (some 10) (.assign (.const (.int .i64 0))) none]).seq (aC.block 0 (((aC.ops [VOp.mk (some 11) (.move (.tmp 10)) none,VOp.mk (some 12) (.move (.tmp
 3)) none,VOp.mk (some 13) (.binOp .lss 3 (.tmp 11) (.tmp 12) 3) none]).seq (aC.cond (.tmp 13) aC.skip (aC.exit 0))).seq ((aC.block 1 (aC.ops [VOp.mk (some 16)
 (.move (.tmp 0)) none,VOp.mk (some 17) (.move (.tmp 1)) none,VOp.mk (some 18) (.move (.tmp 10)) none,VOp.mk (some 19) (.binOp .add 3 (.tmp 17) (.tmp 18) 3) none,VOp.mk
 (some 20) (.move (.tmp 0)) none,VOp.mk (some 21) (.move (.tmp 2)) none,VOp.mk (some 22) (.move (.tmp 10)) none,VOp.mk (some 23) (.binOp .add 3 (.tmp 21) (.tmp 22) 3) none,
 VOp.mk (some 24) (.move (.tmp 0)) none,VOp.mk (some 25) (.move (.tmp 2)) none,VOp.mk (some 26) (.move (.tmp 10)) none,VOp.mk (some 27) (.binOp .add 3 (.tmp 25) (.tmp 26) 3)
 none,VOp.mk (some 28) (.indexAddr tS (.tmp 24) (.tmp 27)) none,VOp.mk (some 29) (.load tE (.tmp 28)) none,VOp.mk (some 30) (.move (.tmp 0)) none,VOp.mk (some 31) (.move
 (.tmp 1)) none,VOp.mk (some 32) (.move (.tmp 10)) none,VOp.mk (some 33) (.binOp .add 3 (.tmp 31) (.tmp 32) 3) none,VOp.mk (some 34) (.indexAddr tS (.tmp 30) (.tmp 33))
 none,VOp.mk (some 35) (.load tE (.tmp 34)) none,VOp.mk (some 36) (.indexAddr tS (.tmp 16) (.tmp 19)) none,VOp.mk none (.store tE (.tmp 36) (.tmp 29)) none,VOp.mk (some 37)
 (.indexAddr tS (.tmp 20) (.tmp 23)) none,VOp.mk none (.store tE (.tmp 37) (.tmp 35)) none])).seq (aC.ops [VOp.mk (some 14) (.move (.tmp 10)) none,VOp.mk (some 15) (.binOp
 .add 3 (.tmp 14) (.const (.int .i64 1)) 3) none,VOp.mk (some 10) (.assign (.tmp 15)) none]))).loop)
def nL (tS tF:TypeId) (fR:FuncId):aC:=(aC.ops [VOp.mk (some 12) (.move (.tmp 2)) none,VOp.mk (some 13) (.move (.tmp 1)) none,VOp.mk (some 14) (.binOp .sub 3 (.tmp 12) (.tmp 13) 3) none,VOp.mk (some 10)
 (.assign (.tmp 14)) none]).seq ((aC.ops [VOp.mk (some 15) (.move (.tmp 3)) none,VOp.mk (some 16) (.move (.tmp 2)) none,VOp.mk (some 17) (.binOp .sub 3 (.tmp 15) (.tmp 16)
 3) none,VOp.mk (some 11) (.assign (.tmp 17)) none]).seq ((aC.block 0 (((aC.ops [VOp.mk (some 18) (.move (.tmp 10)) none,VOp.mk (some 19) (.move (.tmp 11)) none,VOp.mk
 (some 20) (.binOp .neq 3 (.tmp 18) (.tmp 19) 3) none]).seq (aC.cond (.tmp 20) aC.skip (aC.exit 0))).seq (aC.block 1 ((aC.ops [VOp.mk (some 21) (.move (.tmp 10))
 none,VOp.mk (some 22) (.move (.tmp 11)) none,VOp.mk (some 23) (.binOp .gtr 3 (.tmp 21) (.tmp 22) 3) none]).seq (aC.cond (.tmp 23) ((aC.ops [VOp.mk (some 24) (.move
 (.tmp 0)) none,VOp.mk (some 25) (.move (.tmp 2)) none,VOp.mk (some 26) (.move (.tmp 10)) none,VOp.mk (some 27) (.binOp .sub 3 (.tmp 25) (.tmp 26) 3) none,VOp.mk (some 28)
 (.move (.tmp 2)) none,VOp.mk (some 29) (.move (.tmp 11)) none,VOp.mk (some 30) (.move (.tmp 4)) none,VOp.mk (some 31) (.call (.mk (.value (.func fR)) #[.tmp 24,.tmp 27,
 .tmp 28,.tmp 29,.tmp 30] #[tS,3,3,3,tF])) none]).seq (aC.ops [VOp.mk (some 32) (.move (.tmp 10)) none,VOp.mk (some 33) (.move (.tmp 11)) none,VOp.mk (some 34)
 (.binOp .sub 3 (.tmp 32) (.tmp 33) 3) none,VOp.mk (some 10) (.assign (.tmp 34)) none])) ((aC.ops [VOp.mk (some 35) (.move (.tmp 0)) none,VOp.mk (some 36) (.move (.tmp 2))
 none,VOp.mk (some 37) (.move (.tmp 10)) none,VOp.mk (some 38) (.binOp .sub 3 (.tmp 36) (.tmp 37) 3) none,VOp.mk (some 39) (.move (.tmp 2)) none,VOp.mk (some 40) (.move
 (.tmp 11)) none,VOp.mk (some 41) (.binOp .add 3 (.tmp 39) (.tmp 40) 3) none,VOp.mk (some 42) (.move (.tmp 10)) none,VOp.mk (some 43) (.binOp .sub 3 (.tmp 41) (.tmp 42) 3)
 none,VOp.mk (some 44) (.move (.tmp 10)) none,VOp.mk (some 45) (.move (.tmp 4)) none,VOp.mk (some 46) (.call (.mk (.value (.func fR)) #[.tmp 35,.tmp 38,.tmp 43,.tmp 44,
 .tmp 45] #[tS,3,3,3,tF])) none]).seq (aC.ops [VOp.mk (some 47) (.move (.tmp 11)) none,VOp.mk (some 48) (.move (.tmp 10)) none,VOp.mk (some 49) (.binOp .sub 3 (.tmp
 47) (.tmp 48) 3) none,VOp.mk (some 11) (.assign (.tmp 49)) none])))))).loop).seq (aC.ops [VOp.mk (some 50) (.move (.tmp 0)) none,VOp.mk (some 51) (.move (.tmp 2)) none,
 VOp.mk (some 52) (.move (.tmp 10)) none,VOp.mk (some 53) (.binOp .sub 3 (.tmp 51) (.tmp 52) 3) none,VOp.mk (some 54) (.move (.tmp 2)) none,VOp.mk (some 55) (.move (.tmp
 10)) none,VOp.mk (some 56) (.move (.tmp 4)) none,VOp.mk (some 57) (.call (.mk (.value (.func fR)) #[.tmp 50,.tmp 53,.tmp 54,.tmp 55,.tmp 56] #[tS,3,3,3,tF]))
 none])))
def oD (tS tE:TypeId):aC:=(aC.ops [VOp.mk (some 10) (.move (.tmp 1)) none,VOp.mk (some 11) (.binOp .add 3 (.tmp 10) (.const (.int .i64 1)) 3) none,VOp.mk (some 8) (.assign (.tmp 11)) none]).seq
 (aC.block 0 (((aC.ops [VOp.mk (some 12) (.move (.tmp 8)) none,VOp.mk (some 13) (.move (.tmp 2)) none,VOp.mk (some 14) (.binOp .lss 3 (.tmp 12) (.tmp 13) 3) none]).seq
 (aC.cond (.tmp 14) aC.skip (aC.exit 0))).seq ((aC.block 1 ((aC.ops [VOp.mk (some 17) (.move (.tmp 8)) none,VOp.mk (some 9) (.assign (.tmp 17)) none]).seq
 (aC.block 2 (((aC.ops [VOp.mk (some 18) (.move (.tmp 9)) none,VOp.mk (some 19) (.move (.tmp 1)) none,VOp.mk (some 20) (.binOp .gtr 3 (.tmp 18) (.tmp 19) 3) none,
 VOp.mk (some 21) (.move (.tmp 20)) none,VOp.mk (some 22) (.move (.tmp 3)) (some (some 21,true)),VOp.mk (some 23) (.move (.tmp 0)) (some (some 21,true)),VOp.mk (some 24)
 (.move (.tmp 9)) (some (some 21,true)),VOp.mk (some 25) (.indexAddr tS (.tmp 23) (.tmp 24)) (some (some 21,true)),VOp.mk (some 26) (.load tE (.tmp 25)) (some (some 21,
 true)),VOp.mk (some 27) (.move (.tmp 0)) (some (some 21,true)),VOp.mk (some 28) (.move (.tmp 9)) (some (some 21,true)),VOp.mk (some 29) (.binOp .sub 3 (.tmp 28) (.const
 (.int .i64 1)) 3) (some (some 21,true)),VOp.mk (some 30) (.indexAddr tS (.tmp 27) (.tmp 29)) (some (some 21,true)),VOp.mk (some 31) (.load tE (.tmp 30)) (some (some 21,
 true)),VOp.mk (some 32) (.call (.mk (.value (.tmp 22)) #[.tmp 26,.tmp 31] #[tE,tE])) (some (some 21,true)),VOp.mk (some 33) (.binOp .lss 3 (.tmp 32) (.const (.int .i64
 0)) 3) (some (some 21,true)),VOp.mk (some 34) (.pick (.tmp 21) (.tmp 33) (.const (.bool false))) none]).seq (aC.cond (.tmp 34) aC.skip (aC.exit 2))).seq
 ((aC.block 3 (aC.ops [VOp.mk (some 37) (.move (.tmp 0)) none,VOp.mk (some 38) (.move (.tmp 9)) none,VOp.mk (some 39) (.move (.tmp 0)) none,VOp.mk (some 40) (.move
 (.tmp 9)) none,VOp.mk (some 41) (.binOp .sub 3 (.tmp 40) (.const (.int .i64 1)) 3) none,VOp.mk (some 42) (.move (.tmp 0)) none,VOp.mk (some 43) (.move (.tmp 9)) none,
 VOp.mk (some 44) (.binOp .sub 3 (.tmp 43) (.const (.int .i64 1)) 3) none,VOp.mk (some 45) (.indexAddr tS (.tmp 42) (.tmp 44)) none,VOp.mk (some 46) (.load tE (.tmp 45))
 none,VOp.mk (some 47) (.move (.tmp 0)) none,VOp.mk (some 48) (.move (.tmp 9)) none,VOp.mk (some 49) (.indexAddr tS (.tmp 47) (.tmp 48)) none,VOp.mk (some 50) (.load tE
 (.tmp 49)) none,VOp.mk (some 51) (.indexAddr tS (.tmp 37) (.tmp 38)) none,VOp.mk none (.store tE (.tmp 51) (.tmp 46)) none,VOp.mk (some 52) (.indexAddr tS (.tmp 39) (.tmp
 41)) none,VOp.mk none (.store tE (.tmp 52) (.tmp 50)) none])).seq (aC.ops [VOp.mk (some 35) (.move (.tmp 9)) none,VOp.mk (some 36) (.binOp .sub 3 (.tmp 35) (.const (.int
 .i64 1)) 3) none,VOp.mk (some 9) (.assign (.tmp 36)) none]))).loop))).seq (aC.ops [VOp.mk (some 15) (.move (.tmp 8)) none,VOp.mk (some 16) (.binOp .add 3 (.tmp 15)
 (.const (.int .i64 1)) 3) none,VOp.mk (some 8) (.assign (.tmp 16)) none]))).loop)
def zF1 (tS tF:TypeId) (fO:FuncId):aC:=((aC.ops [VOp.mk (some 178) (.move (.tmp 20)) none,VOp.mk (some 179) (.move (.tmp 2)) none,VOp.mk (some 180) (.binOp .lss 3 (.tmp 178) (.tmp 179) 3) none,VOp.mk (some
 181) (.move (.tmp 180)) none,VOp.mk (some 182) (.move (.tmp 2)) (some (some 181,true)),VOp.mk (some 183) (.move (.tmp 24)) (some (some 181,true)),VOp.mk (some 184)
 (.binOp .lss 3 (.tmp 182) (.tmp 183) 3) (some (some 181,true)),VOp.mk (some 185) (.pick (.tmp 181) (.tmp 184) (.const (.bool false))) none]).seq (aC.cond (.tmp 185)
 (aC.ops [VOp.mk (some 186) (.move (.tmp 0)) none,VOp.mk (some 187) (.move (.tmp 20)) none,VOp.mk (some 188) (.move (.tmp 2)) none,VOp.mk (some 189) (.move (.tmp 24))
 none,VOp.mk (some 190) (.move (.tmp 4)) none,VOp.mk (some 191) (.call (.mk (.value (.func fO)) #[.tmp 186,.tmp 187,.tmp 188,.tmp 189,.tmp 190] #[tS,3,3,3,tF]))
 none]) aC.skip))
def zF2 (tS tF:TypeId) (fM:FuncId):aC:=((aC.ops [VOp.mk (some 192) (.move (.tmp 1)) none,VOp.mk (some 193) (.move (.tmp 20)) none,VOp.mk (some 194) (.binOp .lss 3 (.tmp 192) (.tmp 193) 3) none,VOp.mk (some
 195) (.move (.tmp 194)) none,VOp.mk (some 196) (.move (.tmp 20)) (some (some 195,true)),VOp.mk (some 197) (.move (.tmp 18)) (some (some 195,true)),VOp.mk (some 198)
 (.binOp .lss 3 (.tmp 196) (.tmp 197) 3) (some (some 195,true)),VOp.mk (some 199) (.pick (.tmp 195) (.tmp 198) (.const (.bool false))) none]).seq (aC.cond (.tmp 199)
 (aC.ops [VOp.mk (some 200) (.move (.tmp 0)) none,VOp.mk (some 201) (.move (.tmp 1)) none,VOp.mk (some 202) (.move (.tmp 20)) none,VOp.mk (some 203) (.move (.tmp 18))
 none,VOp.mk (some 204) (.move (.tmp 4)) none,VOp.mk (some 205) (.call (.mk (.value (.func fM)) #[.tmp 200,.tmp 201,.tmp 202,.tmp 203,.tmp 204] #[tS,3,3,3,tF]))
 none]) aC.skip))
def zF3 (tS tF:TypeId) (fM:FuncId):aC:=((aC.ops [VOp.mk (some 206) (.move (.tmp 18)) none,VOp.mk (some 207) (.move (.tmp 24)) none,VOp.mk (some 208) (.binOp .lss 3 (.tmp 206) (.tmp 207) 3) none,VOp.mk (some
 209) (.move (.tmp 208)) none,VOp.mk (some 210) (.move (.tmp 24)) (some (some 209,true)),VOp.mk (some 211) (.move (.tmp 3)) (some (some 209,true)),VOp.mk (some 212)
 (.binOp .lss 3 (.tmp 210) (.tmp 211) 3) (some (some 209,true)),VOp.mk (some 213) (.pick (.tmp 209) (.tmp 212) (.const (.bool false))) none]).seq (aC.cond (.tmp 213)
 (aC.ops [VOp.mk (some 214) (.move (.tmp 0)) none,VOp.mk (some 215) (.move (.tmp 18)) none,VOp.mk (some 216) (.move (.tmp 24)) none,VOp.mk (some 217) (.move (.tmp 3))
 none,VOp.mk (some 218) (.move (.tmp 4)) none,VOp.mk (some 219) (.call (.mk (.value (.func fM)) #[.tmp 214,.tmp 215,.tmp 216,.tmp 217,.tmp 218] #[tS,3,3,3,tF]))
 none]) aC.skip))
def oE (tS tE tF:TypeId) (fO fM:FuncId):aC:=((aC.ops [VOp.mk (some 25) (.move (.tmp 2)) none,VOp.mk (some 26) (.move (.tmp 1)) none,VOp.mk (some 27) (.binOp .sub 3 (.tmp 25) (.tmp 26) 3) none,VOp.mk (some 28)
 (.binOp .eql 3 (.tmp 27) (.const (.int .i64 1)) 3) none]).seq (aC.cond (.tmp 28) ((aC.ops [VOp.mk (some 29) (.move (.tmp 2)) none,VOp.mk (some 10) (.assign (.tmp 29))
 none]).seq ((aC.ops [VOp.mk (some 30) (.move (.tmp 3)) none,VOp.mk (some 11) (.assign (.tmp 30)) none]).seq ((aC.block 0 (((aC.ops [VOp.mk (some 31) (.move (.tmp
 10)) none,VOp.mk (some 32) (.move (.tmp 11)) none,VOp.mk (some 33) (.binOp .lss 3 (.tmp 31) (.tmp 32) 3) none]).seq (aC.cond (.tmp 33) aC.skip (aC.exit 0))).seq
 (aC.block 1 ((aC.ops [VOp.mk (some 34) (.move (.tmp 10)) none,VOp.mk (some 35) (.move (.tmp 11)) none,VOp.mk (some 36) (.binOp .add 3 (.tmp 34) (.tmp 35) 3) none,
 VOp.mk (some 37) (.convert 3 357 (.tmp 36)) none,VOp.mk (some 38) (.binOp .shr 357 (.tmp 37) (.const (.int .u64 1)) 357) none,VOp.mk (some 39) (.convert 357 3 (.tmp 38))
 none,VOp.mk (some 12) (.assign (.tmp 39)) none]).seq ((aC.ops [VOp.mk (some 40) (.move (.tmp 4)) none,VOp.mk (some 41) (.move (.tmp 0)) none,VOp.mk (some 42) (.move
 (.tmp 12)) none,VOp.mk (some 43) (.indexAddr tS (.tmp 41) (.tmp 42)) none,VOp.mk (some 44) (.load tE (.tmp 43)) none,VOp.mk (some 45) (.move (.tmp 0)) none,VOp.mk (some
 46) (.move (.tmp 1)) none,VOp.mk (some 47) (.indexAddr tS (.tmp 45) (.tmp 46)) none,VOp.mk (some 48) (.load tE (.tmp 47)) none,VOp.mk (some 49) (.call (.mk (.value (.tmp
 40)) #[.tmp 44,.tmp 48] #[tE,tE])) none,VOp.mk (some 50) (.binOp .lss 3 (.tmp 49) (.const (.int .i64 0)) 3) none]).seq (aC.cond (.tmp 50) (aC.ops [VOp.mk (some 51)
 (.move (.tmp 12)) none,VOp.mk (some 52) (.binOp .add 3 (.tmp 51) (.const (.int .i64 1)) 3) none,VOp.mk (some 10) (.assign (.tmp 52)) none]) (aC.ops [VOp.mk (some 53)
 (.move (.tmp 12)) none,VOp.mk (some 11) (.assign (.tmp 53)) none])))))).loop).seq (((aC.ops [VOp.mk (some 54) (.move (.tmp 1)) none,VOp.mk (some 13) (.assign (.tmp 54))
 none]).seq (aC.block 2 (((aC.ops [VOp.mk (some 55) (.move (.tmp 13)) none,VOp.mk (some 56) (.move (.tmp 10)) none,VOp.mk (some 57) (.binOp .sub 3 (.tmp 56) (.const
 (.int .i64 1)) 3) none,VOp.mk (some 58) (.binOp .lss 3 (.tmp 55) (.tmp 57) 3) none]).seq (aC.cond (.tmp 58) aC.skip (aC.exit 2))).seq ((aC.block 3 (aC.ops
 [VOp.mk (some 61) (.move (.tmp 0)) none,VOp.mk (some 62) (.move (.tmp 13)) none,VOp.mk (some 63) (.move (.tmp 0)) none,VOp.mk (some 64) (.move (.tmp 13)) none,VOp.mk (some
 65) (.binOp .add 3 (.tmp 64) (.const (.int .i64 1)) 3) none,VOp.mk (some 66) (.move (.tmp 0)) none,VOp.mk (some 67) (.move (.tmp 13)) none,VOp.mk (some 68) (.binOp .add 3
 (.tmp 67) (.const (.int .i64 1)) 3) none,VOp.mk (some 69) (.indexAddr tS (.tmp 66) (.tmp 68)) none,VOp.mk (some 70) (.load tE (.tmp 69)) none,VOp.mk (some 71) (.move (.tmp
 0)) none,VOp.mk (some 72) (.move (.tmp 13)) none,VOp.mk (some 73) (.indexAddr tS (.tmp 71) (.tmp 72)) none,VOp.mk (some 74) (.load tE (.tmp 73)) none,VOp.mk (some 75)
 (.indexAddr tS (.tmp 61) (.tmp 62)) none,VOp.mk none (.store tE (.tmp 75) (.tmp 70)) none,VOp.mk (some 76) (.indexAddr tS (.tmp 63) (.tmp 65)) none,VOp.mk none (.store tE
 (.tmp 76) (.tmp 74)) none])).seq (aC.ops [VOp.mk (some 59) (.move (.tmp 13)) none,VOp.mk (some 60) (.binOp .add 3 (.tmp 59) (.const (.int .i64 1)) 3) none,VOp.mk (some
 13) (.assign (.tmp 60)) none]))).loop)).seq aC.ret)))) aC.skip)).seq (((aC.ops [VOp.mk (some 77) (.move (.tmp 3)) none,VOp.mk (some 78) (.move (.tmp 2)) none,VOp.mk
 (some 79) (.binOp .sub 3 (.tmp 77) (.tmp 78) 3) none,VOp.mk (some 80) (.binOp .eql 3 (.tmp 79) (.const (.int .i64 1)) 3) none]).seq (aC.cond (.tmp 80) ((aC.ops [VOp.mk
 (some 81) (.move (.tmp 1)) none,VOp.mk (some 14) (.assign (.tmp 81)) none]).seq ((aC.ops [VOp.mk (some 82) (.move (.tmp 2)) none,VOp.mk (some 15) (.assign (.tmp 82))
 none]).seq ((aC.block 4 (((aC.ops [VOp.mk (some 83) (.move (.tmp 14)) none,VOp.mk (some 84) (.move (.tmp 15)) none,VOp.mk (some 85) (.binOp .lss 3 (.tmp 83) (.tmp 84)
 3) none]).seq (aC.cond (.tmp 85) aC.skip (aC.exit 4))).seq (aC.block 5 ((aC.ops [VOp.mk (some 86) (.move (.tmp 14)) none,VOp.mk (some 87) (.move (.tmp 15))
 none,VOp.mk (some 88) (.binOp .add 3 (.tmp 86) (.tmp 87) 3) none,VOp.mk (some 89) (.convert 3 357 (.tmp 88)) none,VOp.mk (some 90) (.binOp .shr 357 (.tmp 89) (.const (.int
 .u64 1)) 357) none,VOp.mk (some 91) (.convert 357 3 (.tmp 90)) none,VOp.mk (some 16) (.assign (.tmp 91)) none]).seq ((aC.ops [VOp.mk (some 92) (.move (.tmp 4)) none,
 VOp.mk (some 93) (.move (.tmp 0)) none,VOp.mk (some 94) (.move (.tmp 2)) none,VOp.mk (some 95) (.indexAddr tS (.tmp 93) (.tmp 94)) none,VOp.mk (some 96) (.load tE (.tmp
 95)) none,VOp.mk (some 97) (.move (.tmp 0)) none,VOp.mk (some 98) (.move (.tmp 16)) none,VOp.mk (some 99) (.indexAddr tS (.tmp 97) (.tmp 98)) none,VOp.mk (some 100) (.load
 tE (.tmp 99)) none,VOp.mk (some 101) (.call (.mk (.value (.tmp 92)) #[.tmp 96,.tmp 100] #[tE,tE])) none,VOp.mk (some 102) (.binOp .lss 3 (.tmp 101) (.const (.int .i64 0))
 3) none,VOp.mk (some 103) (.unOp .not 4 (.tmp 102)) none]).seq (aC.cond (.tmp 103) (aC.ops [VOp.mk (some 104) (.move (.tmp 16)) none,VOp.mk (some 105) (.binOp .add 3
 (.tmp 104) (.const (.int .i64 1)) 3) none,VOp.mk (some 14) (.assign (.tmp 105)) none]) (aC.ops [VOp.mk (some 106) (.move (.tmp 16)) none,VOp.mk (some 15) (.assign (.tmp
 106)) none])))))).loop).seq (((aC.ops [VOp.mk (some 107) (.move (.tmp 2)) none,VOp.mk (some 17) (.assign (.tmp 107)) none]).seq (aC.block 6 (((aC.ops [VOp.mk (some
 108) (.move (.tmp 17)) none,VOp.mk (some 109) (.move (.tmp 14)) none,VOp.mk (some 110) (.binOp .gtr 3 (.tmp 108) (.tmp 109) 3) none]).seq (aC.cond (.tmp 110) aC.skip
 (aC.exit 6))).seq ((aC.block 7 (aC.ops [VOp.mk (some 113) (.move (.tmp 0)) none,VOp.mk (some 114) (.move (.tmp 17)) none,VOp.mk (some 115) (.move (.tmp 0)) none,
 VOp.mk (some 116) (.move (.tmp 17)) none,VOp.mk (some 117) (.binOp .sub 3 (.tmp 116) (.const (.int .i64 1)) 3) none,VOp.mk (some 118) (.move (.tmp 0)) none,VOp.mk (some
 119) (.move (.tmp 17)) none,VOp.mk (some 120) (.binOp .sub 3 (.tmp 119) (.const (.int .i64 1)) 3) none,VOp.mk (some 121) (.indexAddr tS (.tmp 118) (.tmp 120)) none,VOp.mk
 (some 122) (.load tE (.tmp 121)) none,VOp.mk (some 123) (.move (.tmp 0)) none,VOp.mk (some 124) (.move (.tmp 17)) none,VOp.mk (some 125) (.indexAddr tS (.tmp 123) (.tmp
 124)) none,VOp.mk (some 126) (.load tE (.tmp 125)) none,VOp.mk (some 127) (.indexAddr tS (.tmp 113) (.tmp 114)) none,VOp.mk none (.store tE (.tmp 127) (.tmp 122)) none,
 VOp.mk (some 128) (.indexAddr tS (.tmp 115) (.tmp 117)) none,VOp.mk none (.store tE (.tmp 128) (.tmp 126)) none])).seq (aC.ops [VOp.mk (some 111) (.move (.tmp 17)) none,
 VOp.mk (some 112) (.binOp .sub 3 (.tmp 111) (.const (.int .i64 1)) 3) none,VOp.mk (some 17) (.assign (.tmp 112)) none]))).loop)).seq aC.ret)))) aC.skip)).seq
 ((aC.ops [VOp.mk (some 129) (.move (.tmp 1)) none,VOp.mk (some 130) (.move (.tmp 3)) none,VOp.mk (some 131) (.binOp .add 3 (.tmp 129) (.tmp 130) 3) none,VOp.mk (some
 132) (.convert 3 357 (.tmp 131)) none,VOp.mk (some 133) (.binOp .shr 357 (.tmp 132) (.const (.int .u64 1)) 357) none,VOp.mk (some 134) (.convert 357 3 (.tmp 133)) none,
 VOp.mk (some 18) (.assign (.tmp 134)) none]).seq ((aC.ops [VOp.mk (some 135) (.move (.tmp 18)) none,VOp.mk (some 136) (.move (.tmp 2)) none,VOp.mk (some 137) (.binOp .add
 3 (.tmp 135) (.tmp 136) 3) none,VOp.mk (some 19) (.assign (.tmp 137)) none]).seq ((aC.ops [VOp.mk (some 20) (.assign (.const (.int .i64 0))) none,VOp.mk (some 21)
 (.assign (.const (.int .i64 0))) none]).seq (((aC.ops [VOp.mk (some 138) (.move (.tmp 2)) none,VOp.mk (some 139) (.move (.tmp 18)) none,VOp.mk (some 140) (.binOp .gtr 3
 (.tmp 138) (.tmp 139) 3) none]).seq (aC.cond (.tmp 140) ((aC.ops [VOp.mk (some 141) (.move (.tmp 19)) none,VOp.mk (some 142) (.move (.tmp 3)) none,VOp.mk (some 143)
 (.binOp .sub 3 (.tmp 141) (.tmp 142) 3) none,VOp.mk (some 20) (.assign (.tmp 143)) none]).seq (aC.ops [VOp.mk (some 144) (.move (.tmp 18)) none,VOp.mk (some 21) (.assign
 (.tmp 144)) none])) ((aC.ops [VOp.mk (some 145) (.move (.tmp 1)) none,VOp.mk (some 20) (.assign (.tmp 145)) none]).seq (aC.ops [VOp.mk (some 146) (.move (.tmp 2)) none,
 VOp.mk (some 21) (.assign (.tmp 146)) none])))).seq ((aC.ops [VOp.mk (some 147) (.move (.tmp 19)) none,VOp.mk (some 148) (.binOp .sub 3 (.tmp 147) (.const (.int .i64 1))
 3) none,VOp.mk (some 22) (.assign (.tmp 148)) none]).seq ((aC.block 8 (((aC.ops [VOp.mk (some 149) (.move (.tmp 20)) none,VOp.mk (some 150) (.move (.tmp 21)) none,
 VOp.mk (some 151) (.binOp .lss 3 (.tmp 149) (.tmp 150) 3) none]).seq (aC.cond (.tmp 151) aC.skip (aC.exit 8))).seq (aC.block 9 ((aC.ops [VOp.mk (some 152)
 (.move (.tmp 20)) none,VOp.mk (some 153) (.move (.tmp 21)) none,VOp.mk (some 154) (.binOp .add 3 (.tmp 152) (.tmp 153) 3) none,VOp.mk (some 155) (.convert 3 357 (.tmp 154))
 none,VOp.mk (some 156) (.binOp .shr 357 (.tmp 155) (.const (.int .u64 1)) 357) none,VOp.mk (some 157) (.convert 357 3 (.tmp 156)) none,VOp.mk (some 23) (.assign (.tmp 157))
 none]).seq ((aC.ops [VOp.mk (some 158) (.move (.tmp 4)) none,VOp.mk (some 159) (.move (.tmp 0)) none,VOp.mk (some 160) (.move (.tmp 22)) none,VOp.mk (some 161) (.move
 (.tmp 23)) none,VOp.mk (some 162) (.binOp .sub 3 (.tmp 160) (.tmp 161) 3) none,VOp.mk (some 163) (.indexAddr tS (.tmp 159) (.tmp 162)) none,VOp.mk (some 164) (.load tE
 (.tmp 163)) none,VOp.mk (some 165) (.move (.tmp 0)) none,VOp.mk (some 166) (.move (.tmp 23)) none,VOp.mk (some 167) (.indexAddr tS (.tmp 165) (.tmp 166)) none,VOp.mk (some
 168) (.load tE (.tmp 167)) none,VOp.mk (some 169) (.call (.mk (.value (.tmp 158)) #[.tmp 164,.tmp 168] #[tE,tE])) none,VOp.mk (some 170) (.binOp .lss 3 (.tmp 169) (.const
 (.int .i64 0)) 3) none,VOp.mk (some 171) (.unOp .not 4 (.tmp 170)) none]).seq (aC.cond (.tmp 171) (aC.ops [VOp.mk (some 172) (.move (.tmp 23)) none,VOp.mk (some 173)
 (.binOp .add 3 (.tmp 172) (.const (.int .i64 1)) 3) none,VOp.mk (some 20) (.assign (.tmp 173)) none]) (aC.ops [VOp.mk (some 174) (.move (.tmp 23)) none,VOp.mk (some 21)
 (.assign (.tmp 174)) none])))))).loop).seq ((aC.ops [VOp.mk (some 175) (.move (.tmp 19)) none,VOp.mk (some 176) (.move (.tmp 20)) none,VOp.mk (some 177) (.binOp .sub 3
 (.tmp 175) (.tmp 176) 3) none,VOp.mk (some 24) (.assign (.tmp 177)) none]).seq ((zF1 tS tF fO).seq ((zF2 tS tF fM).seq (zF3 tS tF fM)))))))))))
def oX (tS tF:TypeId) (fN fM:FuncId):aC:=(aC.ops [VOp.mk (some 6) (.assign (.const (.int .i64 20))) none]).seq ((aC.ops [VOp.mk (some 10) (.move (.tmp 6)) none,VOp.mk (some 7) (.assign (.const (.int .i64 0)))
 none,VOp.mk (some 8) (.assign (.tmp 10)) none]).seq ((aC.block 0 (((aC.ops [VOp.mk (some 11) (.move (.tmp 8)) none,VOp.mk (some 12) (.move (.tmp 1)) none,VOp.mk (some
 13) (.binOp .leq 3 (.tmp 11) (.tmp 12) 3) none]).seq (aC.cond (.tmp 13) aC.skip (aC.exit 0))).seq (aC.block 1 ((aC.ops [VOp.mk (some 14) (.move (.tmp 0)) none,
 VOp.mk (some 15) (.move (.tmp 7)) none,VOp.mk (some 16) (.move (.tmp 8)) none,VOp.mk (some 17) (.move (.tmp 2)) none,VOp.mk (some 18) (.call (.mk (.value (.func fN)) #[.tmp
 14,.tmp 15,.tmp 16,.tmp 17] #[tS,3,3,tF])) none]).seq ((aC.ops [VOp.mk (some 19) (.move (.tmp 8)) none,VOp.mk (some 7) (.assign (.tmp 19)) none]).seq (aC.ops
 [VOp.mk (some 20) (.move (.tmp 8)) none,VOp.mk (some 21) (.move (.tmp 6)) none,VOp.mk (some 22) (.binOp .add 3 (.tmp 20) (.tmp 21) 3) none,VOp.mk (some 8) (.assign (.tmp
 22)) none]))))).loop).seq ((aC.ops [VOp.mk (some 23) (.move (.tmp 0)) none,VOp.mk (some 24) (.move (.tmp 7)) none,VOp.mk (some 25) (.move (.tmp 1)) none,VOp.mk (some 26)
 (.move (.tmp 2)) none,VOp.mk (some 27) (.call (.mk (.value (.func fN)) #[.tmp 23,.tmp 24,.tmp 25,.tmp 26] #[tS,3,3,tF])) none]).seq (aC.block 2 (((aC.ops [VOp.mk
 (some 28) (.move (.tmp 6)) none,VOp.mk (some 29) (.move (.tmp 1)) none,VOp.mk (some 30) (.binOp .lss 3 (.tmp 28) (.tmp 29) 3) none]).seq (aC.cond (.tmp 30) aC.skip
 (aC.exit 2))).seq (aC.block 3 ((aC.ops [VOp.mk (some 31) (.move (.tmp 6)) none,VOp.mk (some 32) (.binOp .mul 3 (.const (.int .i64 2)) (.tmp 31) 3) none,VOp.mk (some
 7) (.assign (.const (.int .i64 0))) none,VOp.mk (some 8) (.assign (.tmp 32)) none]).seq ((aC.block 4 (((aC.ops [VOp.mk (some 33) (.move (.tmp 8)) none,VOp.mk (some 34)
 (.move (.tmp 1)) none,VOp.mk (some 35) (.binOp .leq 3 (.tmp 33) (.tmp 34) 3) none]).seq (aC.cond (.tmp 35) aC.skip (aC.exit 4))).seq (aC.block 5 ((aC.ops
 [VOp.mk (some 36) (.move (.tmp 0)) none,VOp.mk (some 37) (.move (.tmp 7)) none,VOp.mk (some 38) (.move (.tmp 7)) none,VOp.mk (some 39) (.move (.tmp 6)) none,VOp.mk (some
 40) (.binOp .add 3 (.tmp 38) (.tmp 39) 3) none,VOp.mk (some 41) (.move (.tmp 8)) none,VOp.mk (some 42) (.move (.tmp 2)) none,VOp.mk (some 43) (.call (.mk (.value (.func
 fM)) #[.tmp 36,.tmp 37,.tmp 40,.tmp 41,.tmp 42] #[tS,3,3,3,tF])) none]).seq ((aC.ops [VOp.mk (some 44) (.move (.tmp 8)) none,VOp.mk (some 7) (.assign (.tmp 44))
 none]).seq (aC.ops [VOp.mk (some 45) (.move (.tmp 8)) none,VOp.mk (some 46) (.move (.tmp 6)) none,VOp.mk (some 47) (.binOp .mul 3 (.const (.int .i64 2)) (.tmp 46) 3)
 none,VOp.mk (some 48) (.binOp .add 3 (.tmp 45) (.tmp 47) 3) none,VOp.mk (some 8) (.assign (.tmp 48)) none]))))).loop).seq (((aC.ops [VOp.mk (some 49) (.move (.tmp 7))
 none,VOp.mk (some 50) (.move (.tmp 6)) none,VOp.mk (some 51) (.binOp .add 3 (.tmp 49) (.tmp 50) 3) none,VOp.mk (some 9) (.assign (.tmp 51)) none]).seq ((aC.ops [VOp.mk
 (some 52) (.move (.tmp 9)) none,VOp.mk (some 53) (.move (.tmp 1)) none,VOp.mk (some 54) (.binOp .lss 3 (.tmp 52) (.tmp 53) 3) none]).seq (aC.cond (.tmp 54) (aC.ops
 [VOp.mk (some 55) (.move (.tmp 0)) none,VOp.mk (some 56) (.move (.tmp 7)) none,VOp.mk (some 57) (.move (.tmp 9)) none,VOp.mk (some 58) (.move (.tmp 1)) none,VOp.mk (some
 59) (.move (.tmp 2)) none,VOp.mk (some 60) (.call (.mk (.value (.func fM)) #[.tmp 55,.tmp 56,.tmp 57,.tmp 58,.tmp 59] #[tS,3,3,3,tF])) none]) aC.skip))).seq
 (aC.ops [VOp.mk (some 61) (.move (.tmp 6)) none,VOp.mk (some 62) (.binOp .mul 3 (.tmp 61) (.const (.int .i64 2)) 3) none,VOp.mk (some 6) (.assign (.tmp 62))
 none])))))).loop))))
def pY (tS tF:TypeId) (fT:FuncId):aC:=aC.ops [VOp.mk (some 4) (.move (.tmp 0)) none,VOp.mk (some 5) (.move (.tmp 0)) none,VOp.mk (some 6) (.call (.mk (.builtin .len) #[.tmp 5] #[tS])) none,VOp.mk (some 7)
 (.move (.tmp 1)) none,VOp.mk (some 8) (.call (.mk (.value (.func fT)) #[.tmp 4,.tmp 6,.tmp 7] #[tS,3,tF])) none]
def pZ (tS:TypeId):aC:=(aC.ops [VOp.mk (some 2) (.assign (.const (.slice none 0 0))) none]).seq (((aC.ops [VOp.mk (some 3) (.move (.tmp 0)) none,VOp.mk (some 4) (.binOp .eql tS (.tmp 3)
 (.const (.slice none 0 0)) tS) none]).seq (aC.cond (.tmp 4) ((aC.ops [VOp.mk (some 2) (.assign (.const (.slice none 0 0))) none]).seq aC.ret) aC.skip)).seq
 ((aC.ops [VOp.mk (some 5) (.buildSlice tS 0 #[]) none,VOp.mk (some 6) (.move (.tmp 0)) none,VOp.mk (some 7) (.call (.mk (.builtin .append) #[.tmp 5,.tmp 6] #[tS,tS]))
 none,VOp.mk (some 2) (.assign (.tmp 7)) none]).seq aC.ret))
def rU (tS tE tF tN:TypeId) (fC fL fS:FuncId):aC:=(aC.ops [VOp.mk (some 4) (.box tN (.tmp 1)) none,VOp.mk (some 6) (.assign (.const (.slice none 0 0))) none]).seq ((aC.ops [VOp.mk (some 9) (.move (.tmp 0)) none,VOp.mk
 (some 10) (.call (.mk (.value (.func fC)) #[.tmp 9] #[tS])) none,VOp.mk (some 7) (.assign (.tmp 10)) none]).seq (((aC.ops [VOp.mk (some 11) (.move (.tmp 7)) none,VOp.mk
 (some 12) (.call (.mk (.builtin .len) #[.tmp 11] #[tS])) none,VOp.mk (some 13) (.move (.const (.int .i64 0))) none]).seq (aC.block 0 ((aC.ops [VOp.mk (some 14) (.binOp
 .lss 3 (.tmp 13) (.tmp 12) 3) none]).seq ((aC.cond (.tmp 14) aC.skip (aC.exit 0)).seq ((aC.block 1 ((aC.ops [VOp.mk (some 15) (.move (.tmp 13)) none,VOp.mk
 (some 8) (.assign (.tmp 15)) none]).seq (aC.ops [VOp.mk (some 16) (.move (.tmp 7)) none,VOp.mk (some 17) (.move (.tmp 8)) none,VOp.mk (some 18) (.move (.tmp 2)) none,
 VOp.mk (some 19) (.move (.tmp 7)) none,VOp.mk (some 20) (.move (.tmp 8)) none,VOp.mk (some 21) (.indexAddr tS (.tmp 19) (.tmp 20)) none,VOp.mk (some 22) (.load tE (.tmp
 21)) none,VOp.mk (some 23) (.call (.mk (.value (.tmp 18)) #[.tmp 22] #[tE])) none,VOp.mk (some 24) (.indexAddr tS (.tmp 16) (.tmp 17)) none,VOp.mk none (.store tE (.tmp 24)
 (.tmp 23)) none]))).seq (aC.ops [VOp.mk (some 25) (.binOp .add 3 (.tmp 13) (.const (.int .i64 1)) 3) none,VOp.mk (some 13) (.move (.tmp 25)) none])))).loop)).seq
 ((aC.ops [VOp.mk (some 26) (.move (.tmp 7)) none,VOp.mk (some 27) (.makeFunc (.func fL) #[] #[.tmp 4]) none,VOp.mk (some 28) (.call (.mk (.value (.func fS)) #[.tmp 26,
 .tmp 27] #[tS,tF])) none]).seq ((aC.ops [VOp.mk (some 29) (.move (.tmp 7)) none,VOp.mk (some 6) (.assign (.tmp 29)) none]).seq aC.ret))))
theorem jS0:aJ kp8 300 38 (mJ 59 133) []:=⟨Tryz.f300,_,[],Tryz.func300,rfl,rfl,rfl,by kernel_rfl,by kernel_rfl,by kernel_rfl⟩
theorem jS1:aJ kp8 278 58 (nL 59 268 300) []:=⟨Tryz.f278,_,[],Tryz.func278,rfl,rfl,rfl,by kernel_rfl,by kernel_rfl,by kernel_rfl⟩
theorem jS2:aJ kp8 238 53 (oD 59 133) []:=⟨Tryz.f238,_,[],Tryz.func238,rfl,rfl,rfl,by kernel_rfl,by kernel_rfl,by kernel_rfl⟩
theorem jS3:aJ kp8 239 220 (oE 59 133 268 278 239) []:=⟨Tryz.f239,_,[],Tryz.func239,rfl,rfl,rfl,by kernel_rfl,by kernel_rfl,by kernel_rfl⟩
theorem jS4:aJ kp8 185 63 (oX 59 268 238 239) []:=⟨Tryz.f185,_,[],Tryz.func185,rfl,rfl,rfl,by kernel_rfl,by kernel_rfl,by kernel_rfl⟩
theorem jS5:aJ kp8 127 9 (pY 59 268 185) []:=⟨Tryz.f127,_,[],Tryz.func127,rfl,rfl,rfl,by kernel_rfl,by kernel_rfl,by kernel_rfl⟩
theorem jS6:aJ kp8 126 8 (pZ 59) [ResultVar.tmp 2]:=⟨Tryz.f126,_,[],Tryz.func126,rfl,rfl,rfl,by kernel_rfl,by kernel_rfl,by kernel_rfl⟩
theorem jS7:aJ kp8 83 30 (rU 59 133 268 187 126 128 127) [ResultVar.tmp 6]:=⟨Tryz.f83,_,[],Tryz.func83,rfl,rfl,rfl,by kernel_rfl,by kernel_rfl,by kernel_rfl⟩
theorem jS8:aJ kp8 301 38 (mJ 60 126) []:=⟨Tryz.f301,_,[],Tryz.func301,rfl,rfl,rfl,by kernel_rfl,by kernel_rfl,by kernel_rfl⟩
theorem jS9:aJ kp8 279 58 (nL 60 271 301) []:=⟨Tryz.f279,_,[],Tryz.func279,rfl,rfl,rfl,by kernel_rfl,by kernel_rfl,by kernel_rfl⟩
theorem jT0:aJ kp8 241 53 (oD 60 126) []:=⟨Tryz.f241,_,[],Tryz.func241,rfl,rfl,rfl,by kernel_rfl,by kernel_rfl,by kernel_rfl⟩
theorem jT1:aJ kp8 242 220 (oE 60 126 271 279 242) []:=⟨Tryz.f242,_,[],Tryz.func242,rfl,rfl,rfl,by kernel_rfl,by kernel_rfl,by kernel_rfl⟩
theorem jT2:aJ kp8 187 63 (oX 60 271 241 242) []:=⟨Tryz.f187,_,[],Tryz.func187,rfl,rfl,rfl,by kernel_rfl,by kernel_rfl,by kernel_rfl⟩
theorem jT3:aJ kp8 131 9 (pY 60 271 187) []:=⟨Tryz.f131,_,[],Tryz.func131,rfl,rfl,rfl,by kernel_rfl,by kernel_rfl,by kernel_rfl⟩
theorem jT4:aJ kp8 130 8 (pZ 60) [ResultVar.tmp 2]:=⟨Tryz.f130,_,[],Tryz.func130,rfl,rfl,rfl,by kernel_rfl,by kernel_rfl,by kernel_rfl⟩
theorem jT5:aJ kp8 86 30 (rU 60 126 271 190 130 132 131) [ResultVar.tmp 6]:=⟨Tryz.f86,_,[],Tryz.func86,rfl,rfl,rfl,by kernel_rfl,by kernel_rfl,by kernel_rfl⟩
theorem jT6:aJ kp8 302 38 (mJ 61 140) []:=⟨Tryz.f302,_,[],Tryz.func302,rfl,rfl,rfl,by kernel_rfl,by kernel_rfl,by kernel_rfl⟩
theorem jT7:aJ kp8 280 58 (nL 61 274 302) []:=⟨Tryz.f280,_,[],Tryz.func280,rfl,rfl,rfl,by kernel_rfl,by kernel_rfl,by kernel_rfl⟩
theorem jT8:aJ kp8 243 53 (oD 61 140) []:=⟨Tryz.f243,_,[],Tryz.func243,rfl,rfl,rfl,by kernel_rfl,by kernel_rfl,by kernel_rfl⟩
theorem jT9:aJ kp8 244 220 (oE 61 140 274 280 244) []:=⟨Tryz.f244,_,[],Tryz.func244,rfl,rfl,rfl,by kernel_rfl,by kernel_rfl,by kernel_rfl⟩
theorem jU0:aJ kp8 188 63 (oX 61 274 243 244) []:=⟨Tryz.f188,_,[],Tryz.func188,rfl,rfl,rfl,by kernel_rfl,by kernel_rfl,by kernel_rfl⟩
theorem jU1:aJ kp8 134 9 (pY 61 274 188) []:=⟨Tryz.f134,_,[],Tryz.func134,rfl,rfl,rfl,by kernel_rfl,by kernel_rfl,by kernel_rfl⟩
theorem jU2:aJ kp8 133 8 (pZ 61) [ResultVar.tmp 2]:=⟨Tryz.f133,_,[],Tryz.func133,rfl,rfl,rfl,by kernel_rfl,by kernel_rfl,by kernel_rfl⟩
theorem jU3:aJ kp8 89 30 (rU 61 140 274 193 133 135 134) [ResultVar.tmp 6]:=⟨Tryz.f89,_,[],Tryz.func89,rfl,rfl,rfl,by kernel_rfl,by kernel_rfl,by kernel_rfl⟩
theorem jU4:aJ kp8 303 38 (mJ 62 161) []:=⟨Tryz.f303,_,[],Tryz.func303,rfl,rfl,rfl,by kernel_rfl,by kernel_rfl,by kernel_rfl⟩
theorem jU5:aJ kp8 281 58 (nL 62 277 303) []:=⟨Tryz.f281,_,[],Tryz.func281,rfl,rfl,rfl,by kernel_rfl,by kernel_rfl,by kernel_rfl⟩
theorem jU6:aJ kp8 245 53 (oD 62 161) []:=⟨Tryz.f245,_,[],Tryz.func245,rfl,rfl,rfl,by kernel_rfl,by kernel_rfl,by kernel_rfl⟩
theorem jU7:aJ kp8 246 220 (oE 62 161 277 281 246) []:=⟨Tryz.f246,_,[],Tryz.func246,rfl,rfl,rfl,by kernel_rfl,by kernel_rfl,by kernel_rfl⟩
theorem jU8:aJ kp8 189 63 (oX 62 277 245 246) []:=⟨Tryz.f189,_,[],Tryz.func189,rfl,rfl,rfl,by kernel_rfl,by kernel_rfl,by kernel_rfl⟩
theorem jU9:aJ kp8 137 9 (pY 62 277 189) []:=⟨Tryz.f137,_,[],Tryz.func137,rfl,rfl,rfl,by kernel_rfl,by kernel_rfl,by kernel_rfl⟩
theorem jV0:aJ kp8 136 8 (pZ 62) [ResultVar.tmp 2]:=⟨Tryz.f136,_,[],Tryz.func136,rfl,rfl,rfl,by kernel_rfl,by kernel_rfl,by kernel_rfl⟩
theorem jV1:aJ kp8 92 30 (rU 62 161 277 196 136 138 137) [ResultVar.tmp 6]:=⟨Tryz.f92,_,[],Tryz.func92,rfl,rfl,rfl,by kernel_rfl,by kernel_rfl,by kernel_rfl⟩
theorem jV2:aJ kp8 304 38 (mJ 63 162) []:=⟨Tryz.f304,_,[],Tryz.func304,rfl,rfl,rfl,by kernel_rfl,by kernel_rfl,by kernel_rfl⟩
theorem jV3:aJ kp8 282 58 (nL 63 280 304) []:=⟨Tryz.f282,_,[],Tryz.func282,rfl,rfl,rfl,by kernel_rfl,by kernel_rfl,by kernel_rfl⟩
theorem jV4:aJ kp8 247 53 (oD 63 162) []:=⟨Tryz.f247,_,[],Tryz.func247,rfl,rfl,rfl,by kernel_rfl,by kernel_rfl,by kernel_rfl⟩
theorem jV5:aJ kp8 248 220 (oE 63 162 280 282 248) []:=⟨Tryz.f248,_,[],Tryz.func248,rfl,rfl,rfl,by kernel_rfl,by kernel_rfl,by kernel_rfl⟩
theorem jV6:aJ kp8 190 63 (oX 63 280 247 248) []:=⟨Tryz.f190,_,[],Tryz.func190,rfl,rfl,rfl,by kernel_rfl,by kernel_rfl,by kernel_rfl⟩
theorem jV7:aJ kp8 140 9 (pY 63 280 190) []:=⟨Tryz.f140,_,[],Tryz.func140,rfl,rfl,rfl,by kernel_rfl,by kernel_rfl,by kernel_rfl⟩
theorem jV8:aJ kp8 139 8 (pZ 63) [ResultVar.tmp 2]:=⟨Tryz.f139,_,[],Tryz.func139,rfl,rfl,rfl,by kernel_rfl,by kernel_rfl,by kernel_rfl⟩
theorem jV9:aJ kp8 95 30 (rU 63 162 280 199 139 141 140) [ResultVar.tmp 6]:=⟨Tryz.f95,_,[],Tryz.func95,rfl,rfl,rfl,by kernel_rfl,by kernel_rfl,by kernel_rfl⟩
end Go.Vt.Tryz
