import Derived.Test.YtdabfkmhkoppcaaGreatDoorVtSimp
import Derived.Test.YtdabfkmhkoppcaaGreatDoorProg
import Derived.Test.YtdabfkmhkoppcaaGreatDoorVtComp
set_option linter.all false
set_option maxRecDepth 100000
open List renaming range→kh4
open Go.Proofs.Tryz renaming prog→kd5
namespace Go.Vt
open And renaming intro→ai
structure Bx (p:Prop):Type where
 d:p
def bV0:=Bx.mk <| ai @jm6 (ai @jr8 (ai @jr9 (ai @js0 (ai @js1 (ai @jn9 (ai @js2 (ai @js3 (ai @js4 (ai @js5 (ai @js6 (ai @js7 (ai @wS.eq_1 (ai @ro.eq_1 (ai @ro.eq_2 (ai @ro.eq_3 (ai @ro.eq_4 (ai @ro.eq_5 (ai @ro.eq_6 (ai @ro.eq_7 (ai @ro.eq_8 (ai @ro.eq_9 (ai @ro.eq_10 (ai @ro.eq_11 (ai @ro.eq_12 (ai @ro.eq_13 (ai @ro.eq_14 (ai @ro.eq_15 (ai @ro.eq_16 (ai @ro.eq_17 (ai @ro.eq_18 (ai @ro.eq_19 (ai @ro.eq_20 (ai @ro.eq_21 (ai @ro.eq_22 (ai @List.any_cons.{0} (ai @List.any_nil.{0} (ai @List.contains_cons.{0} (ai @List.contains_nil.{0} @Bool.or_true))))))))))))))))))))))))))))))))))))))
def bV1:=Bx.mk <| ai @Bool.true_or (ai @Bool.or_false (ai @Bool.false_or (ai @rV (ai @jm7 (ai @jm8 (ai @jm9 (ai @jn0 (ai @jn1 (ai @jn2 (ai @jn3 (ai @jn5 (ai @jn6 (ai @jn7 (ai @jn8 (ai @jo0 (ai @jo1 (ai @jo2 (ai @jo3 (ai @jo4 (ai @jo5 (ai @jo6 (ai @jo7 (ai @jo8 (ai @jo9 (ai @jp0 (ai @jp1 (ai @jp2 (ai @jp3 (ai @jp4 (ai @jq3 (ai @jq4 (ai @jq5 (ai @jq6 (ai @asB.eq_1 (ai @asB.eq_2 (ai @asL.eq_1 (ai @asL.eq_2 (ai @asI.eq_1 @asI.eq_2))))))))))))))))))))))))))))))))))))))
def bV2:=Bx.mk <| ai @tY.eq_1 (ai @tY.eq_2 (ai @tY.eq_3 (ai @jq7 (ai @jq8 (ai @jq9 (ai @jr0 (ai @zQ7 (ai @jr1 (ai @jr2 (ai @jr3 (ai @js8 (ai @js9 (ai @jt0 (ai @jt1 (ai @jt2 (ai @jt3 (ai @jt4 (ai @jt5 (ai @jt7 (ai @jt8 (ai @jt9 (ai @ju2 (ai @ju0 (ai @ju1 (ai @je4 (ai @eH (ai @ju3 (ai @ju4 (ai @ju5 (ai @ju6 (ai @ju7 (ai @cI.eq_1 (ai @cI.eq_2 (ai @cI.eq_3 (ai @cI.eq_4 (ai @mkV.eq_1 (ai @mkV.eq_2 (ai @rI.eq_1 @gJ.eq_1))))))))))))))))))))))))))))))))))))))
def bV3:=Bx.mk <| ai @gJ.eq_2 (ai @gJ.eq_3 (ai @jD.eq_1 (ai @jD.eq_2 (ai @jU.eq_1 (ai @jU.eq_2 (ai @toD.eq_1 (ai @toD.eq_2 (ai @toD.eq_3 (ai @toD.eq_4 (ai @kO.eq_1 (ai @kO.eq_2 (ai @fzL.eq_1 (ai @fzL.eq_2 (ai @fzOne.eq_1 (ai @aN.freeze.eq_1 (ai @aN.freeze.eq_2 (ai @lB.eq_1 (ai @lR.eq_1 (ai @lR.eq_2 (ai @lR.eq_3 (ai @lR.eq_4 (ai @jV.eq_1 (ai @jV.eq_2 (ai @jV.eq_3 (ai @jV.eq_4 (ai @jV.eq_5 (ai @sZ.eq_1 (ai @oR.eq_1 (ai @oR.eq_2 (ai @vbr.eq_1 (ai @vbr.eq_2 (ai @gR.eq_1 (ai @gR.eq_2 (ai @gR.eq_3 (ai @gR.eq_4 (ai @gR.eq_5 (ai @gR.eq_6 (ai @gR.eq_7 @eR.eq_1))))))))))))))))))))))))))))))))))))))
def bV4:=Bx.mk <| ai @eR.eq_2 (ai @eR.eq_3 (ai @eR.eq_4 (ai @eR.eq_5 (ai @eR.eq_6 (ai @eR.eq_7 (ai @eR.eq_8 (ai @eR.eq_9 (ai @eR.eq_10 (ai @eR.eq_11 (ai @eW.eq_1 (ai @eW.eq_2 (ai @eW.eq_3 (ai @jX.eq_1 (ai @jX.eq_2 (ai @eO.eq_1 (ai @eO.eq_2 (ai @kP.eq_1 (ai @kP.eq_2 (ai @fX.eq_1 (ai @fX.eq_2 (ai @gZ.eq_1 (ai @gZ.eq_2 (ai @gZ.eq_3 (ai @gZ.eq_4 (ai @gZ.eq_5 (ai @gZ.eq_6 (ai @gZ.eq_7 (ai @gZ.eq_8 (ai @gZ.eq_9 (ai @iH.eq_1 (ai @iH.eq_2 (ai @iH.eq_3 (ai @iH.eq_4 (ai @iH.eq_5 (ai @iH.eq_6 (ai @iH.eq_7 (ai @iH.eq_8 (ai @iH.eq_9 @iH.eq_10))))))))))))))))))))))))))))))))))))))
def bV5:=Bx.mk <| ai @iH.eq_11 (ai @mU.eq_1 (ai @mU.eq_2 (ai @mU.eq_3 (ai @mU.eq_4 (ai @mU.eq_5 (ai @mU.eq_6 (ai @mU.eq_7 (ai @mU.eq_8 (ai @iI.eq_1 (ai @iI.eq_2 (ai @iI.eq_3 (ai @iI.eq_4 (ai @iI.eq_5 (ai @iI.eq_6 (ai @iI.eq_7 (ai @tA.eq_1 (ai @tA.eq_2 (ai @tA.eq_3 (ai @rK.eq_1 (ai @rK.eq_2 (ai @oW.eq_1 (ai @oW.eq_2 (ai @oW.eq_3 (ai @oW.eq_4 (ai @nU.eq_1 (ai @nU.eq_2 (ai @nU.eq_3 (ai @nU.eq_4 (ai @lS.eq_1 (ai @lS.eq_2 (ai @lS.eq_3 (ai @dX.eq_1 (ai @dX.eq_2 (ai @dX.eq_3 (ai @dX.eq_4 (ai @dX.eq_5 (ai @dX.eq_6 (ai @pV.eq_1 @pV.eq_2))))))))))))))))))))))))))))))))))))))
def bV6:=Bx.mk <| ai @iG.eq_1 (ai @iG.eq_2 (ai @vW.eq_1 (ai @tI.eq_1 (ai @tI.eq_2 (ai @oY.eq_1 (ai @oY.eq_2 (ai @oY.eq_3 (ai @tH.eq_1 (ai @tH.eq_2 (ai @tH.eq_3 (ai @lC.eq_1 (ai @zok.eq_1 (ai @vX.eq_1 (ai @zR0.eq_1 (ai @zR0.eq_2 (ai @ju8 (ai @ju9 (ai @jv0 (ai @zn8.eq_1 (ai @rP.eq_1 (ai @vrw.eq_1 (ai @zM7.eq_1 (ai @Bool.and_false (ai @jp5 (ai @jp6 (ai @jp7 (ai @jp8 (ai @jp9 (ai @jq0 (ai @jq1 (ai @jq2 (ai @jr4 (ai @jr5 (ai @jr6 (ai @jr7 (ai @eS.eq_1 (ai @eS.eq_2 (ai @eC.eq_1 @eC.eq_2))))))))))))))))))))))))))))))))))))))
def bV7:=Bx.mk <| ai @dK.eq_1 (ai @dK.eq_2 (ai @lD.eq_1 (ai @lD.eq_2 (ai @lD.eq_3 (ai @kR.eq_1 (ai @kR.eq_2 (ai @jZ.eq_1 (ai @jZ.eq_2 (ai @idx.eq_1 (ai @idx.eq_2 (ai @List.lookup_nil.{0,0} (ai @List.getElem?_cons_zero.{0} (ai @List.getElem?_cons_succ.{0} (ai @List.getElem?_nil.{0} (ai @List.take_succ_cons.{0} (ai @List.take_zero.{0} (ai @List.take_nil.{0} (ai @List.drop_succ_cons.{0} (ai @List.drop_zero.{0} (ai @List.drop_nil.{0} (ai @List.length_cons.{0} (ai @List.length_nil.{0} (ai @List.append_nil.{0} (ai @List.nil_append.{0} (ai @List.cons_append.{0} (ai @List.map_cons.{0,0} (ai @List.map_nil.{0,0} (ai @List.set_cons_zero.{0} (ai @List.set_cons_succ.{0} (ai @List.set_nil.{0} (ai @List.all_cons.{0} (ai @List.all_nil.{0} (ai @List.map_append.{0,0} (ai @Bool.and_true (ai @Bool.true_and (ai @beq_self_eq_true.{0} (ai @cond_true.{1} (ai @cond_false.{1} @true_and))))))))))))))))))))))))))))))))))))))
def bV8:=Bx.mk <| ai @and_true (ai @false_and (ai @and_false (ai @and_self (ai @Option.map_some.{0,0} (ai @Option.map_none.{0,0} (ai @Option.bind_some.{0,0} (ai @Option.bind_none.{0,0} (ai @Option.isSome_some.{0} (ai @decide_true (ai @decide_false (ai @decide_eq_true_eq (ai @decide_eq_false_iff_not (ai @beq_iff_eq.{0} (ai @bne_iff_ne.{0} (ai @beq_eq_false_iff_ne.{0} (ai @bne_eq_false_iff_eq.{0} (ai @Bool.false_eq_true (ai @eq_self.{1} (ai @forall_const.{0} (ai @forall_const.{1} (ai @not_true_eq_false (ai @not_false_eq_true (ai @ne_eq.{1} (ai @false_implies (ai @implies_true.{0} (ai @implies_true.{1} (ai @true_implies (ai @Bool.not_true (ai @Bool.not_false (ai @Nat.zero_add (ai @Nat.le_refl (ai @Nat.add_zero (ai @gt_iff_lt.{0} @ge_iff_le.{0})))))))))))))))))))))))))))))))))
def bV:=Bx.mk <| ai bV0.d (ai bV1.d (ai bV2.d (ai bV3.d (ai bV4.d (ai bV5.d (ai bV6.d (ai bV7.d bV8.d)))))))
def xF:Sl→List (Option V)
 |[]=>[]
 |x::r=>some x.2::xF r
def xG (h:aB) (ids:List Nat) (T:Sl):Sl→List (Option V)
 |[]=>[]
 |x::r=>(match T.lookup x.1 with|some v=>bR h ids v|none=>none)::xG h ids T r
theorem cT {h:aB} {ids:List Nat} {T:Sl}:∀{T0:Sl},xG h ids T T0=xF T0→Sub h ids T0 T
 |[],_=>trivial
 |(i,v0)::r,e=>by
  simp only[xG,xF,List.cons.injEq]at e;obtain⟨e1,e2⟩:=e;refine⟨?_,cT e2⟩;cases hl:T.lookup i with
  |none=>rw[hl]at e1;cases e1
  |some v=>rw[hl]at e1;exact⟨v,kc0 v,e1⟩
theorem aL {n:Nat} {T T0:Sl} {h h0:aB} (ids:List Nat) (k2:bK ids=true) (k3:ids.take n=kh4 n) (k4:bB h (idx ids) ids=some h0) (k5:xG h ids T T0=xF T0):gB n T h T0 h0:=
 eT ids h (kb5 _) k2 k3 k4 (cT k5)
theorem gE {n:Nat} {T T0 T1:Sl} {h h0 hp hh:aB} (gs:List (Nat×Nat)) (bs:List (Nat×Nat×Nat)) (ids:List Nat) (k0:rU T h gs=some (T1,hp)) (k0':eP hp bs=some hh) (k2:bK ids=true) (k3:ids.take n=kh4 n) (k4:bB hh (idx ids) ids=some h0)
  (k5:xG hh ids T1 T0=xF T0):gB n T h T0 h0:=nB gs bs ids hh k0 k0' (kb5 _) k2 k3 k4 (cT k5)
theorem aQ {P:Program} {h:aB} {K:Kn (V×aB)} {f:FuncId} {avs:List V} (ids:List Nat) {avs':List V} {hs H h':aB} {R r':V} (hc:VC P f avs' hs fun r h'=>r=R∧h'=H) (hn:bK ids=true) (hl:cL h ids avs=some avs') (hh:bB h (idx ids) ids=some hs)
  (hb:lE h ids (dK ids avs) R H=some (r',h')) (hk:K.run (r',h')):@jN P f avs h K:=bI ids hc hn hl hh (by rintro _ _ ⟨rfl,rfl⟩;exact⟨_,_,hb,hk⟩)
end Go.Vt
namespace Go.Vt.Tryz
open Go.Proofs
theorem aR:kd5.follows .mixedOrders=true:=by kernel_rfl
theorem jw5 (f:Nat):nV kd5 f=List.contains [288] f:=jw4 (by kernel_rfl) (by kernel_rfl) f
theorem bt3:bty kd5 3=none:=by kernel_rfl
theorem jw6:bty kd5 32=none:=by kernel_rfl
theorem jw7:bty kd5 34=none:=by kernel_rfl
theorem jw8:bty kd5 65=none:=by kernel_rfl
theorem jw9:bty kd5 85=none:=by kernel_rfl
theorem jx0:bty kd5 87=none:=by kernel_rfl
theorem jx1:bty kd5 89=none:=by kernel_rfl
theorem jx2:bty kd5 126=none:=by kernel_rfl
theorem jx3:bty kd5 133=none:=by kernel_rfl
theorem zT3:bty kd5 140=none:=by kernel_rfl
theorem jx4:bty kd5 156=none:=by kernel_rfl
theorem jx5:bty kd5 161=none:=by kernel_rfl
theorem jx6:bty kd5 162=none:=by kernel_rfl
theorem jx7:bty kd5 187=none:=by kernel_rfl
theorem jx8:bty kd5 190=none:=by kernel_rfl
theorem jx9:bty kd5 193=none:=by kernel_rfl
theorem jy0:bty kd5 196=none:=by kernel_rfl
theorem jy1:bty kd5 199=none:=by kernel_rfl
theorem jy2:bty kd5 201=none:=by kernel_rfl
theorem jy3:bty kd5 204=none:=by kernel_rfl
theorem jy4:bty kd5 211=none:=by kernel_rfl
theorem jy5:bty kd5 212=none:=by kernel_rfl
theorem jy6:bty kd5 213=none:=by kernel_rfl
theorem jy7:bty kd5 215=none:=by kernel_rfl
theorem jy8:bty kd5 225=none:=by kernel_rfl
theorem jy9:bty kd5 227=none:=by kernel_rfl
theorem jz0:bty kd5 347=none:=by kernel_rfl
theorem jz1:bty kd5 413=none:=by kernel_rfl
theorem ti3:ti kd5 3=some (TI.mk 1 8 false (some (V.one (L.d (.int .i64 0)))) (TK.int IntKind.i64) [] none):=by kernel_rfl
theorem ti4:ti kd5 4=some (TI.mk 1 1 false (some (V.one (L.d (D.bool false)))) TK.bool [] none):=by kernel_rfl
theorem ti5:ti kd5 5=some (TI.mk 1 1 false (some (V.one (L.d (D.int IntKind.u8 (0))))) (TK.int IntKind.u8) [] none):=by kernel_rfl
theorem ti9:ti kd5 9=some (TI.mk 1 16 false (some (V.one (L.d (D.str (ByteArray.mk (Array.mk [])))))) TK.str [] none):=by kernel_rfl
theorem qM:ti kd5 30=some (TI.mk 1 24 false (some (V.one L.nils)) TK.slice [] (some (EI.mk 3 40 (some (V.agg [L.d (.int .i64 0),L.d (.int .i64 0),
 L.nils])) true))):=by kernel_rfl
theorem lH:ti kd5 32=some (TI.mk 3 40 true (some (V.agg [L.d (.int .i64 0),L.d (.int .i64 0),L.nils])) TK.struct [(0,1,false),(1,1,false),(2,
 1,false)] none):=by kernel_rfl
theorem zq1:ti kd5 34=some (TI.mk 4 48 true (some (V.agg [L.d (.int .i64 0),L.d (.int .i64 0),L.d (.int .i64 0),L.nils])) TK.struct [(0,
 1,false),(1,3,true)] none):=by kernel_rfl
theorem sF:ti kd5 59=some (TI.mk 1 24 false (some (V.one L.nils)) TK.slice [] (some (EI.mk 5 80 (some (V.agg [L.d (D.str (ByteArray.mk (Array.mk []))),L.d (D.int
 IntKind.i64 (0)),L.d (.int .i64 0),L.nils,L.nils])) true))):=by kernel_rfl
theorem sG:ti kd5 60=some (TI.mk 1 24 false (some (V.one L.nils)) TK.slice [] (some (EI.mk 5 64 (some (V.agg [L.d (D.str (ByteArray.mk (Array.mk []))),L.d (D.int
 IntKind.i64 (0)),L.d (.int .i64 0),L.d (.int .i64 0),L.nils])) true))):=by kernel_rfl
theorem oA:ti kd5 61=some (TI.mk 1 24 false (some (V.one L.nils)) TK.slice [] (some (EI.mk 6 136 (some (V.agg [L.d (D.str (ByteArray.mk (Array.mk []))),L.nils,L.nils,
 L.nils,L.nils,L.nils])) true))):=by kernel_rfl
theorem sH:ti kd5 62=some (TI.mk 1 24 false (some (V.one L.nils)) TK.slice [] (some (EI.mk 13 304 (some (V.agg [L.d (D.str (ByteArray.mk (Array.mk []))),L.nils,L.nils,
 L.nils,L.nils,L.nils,L.nils,L.nils,L.nils,L.nils,L.nils,L.nils,L.nils])) true))):=by kernel_rfl
theorem sI:ti kd5 63=some (TI.mk 1 24 false (some (V.one L.nils)) TK.slice [] (some (EI.mk 7 160 (some (V.agg [L.d (D.str (ByteArray.mk (Array.mk []))),L.nils,L.nils,
 L.nils,L.nils,L.nils,L.nils])) true))):=by kernel_rfl
theorem mI:ti kd5 65=some (TI.mk 5 120 true (some (V.agg [L.nils,L.nils,L.nils,L.nils,L.nils])) TK.struct [(0,1,false),(1,1,false),(2,1,false),(3,1,
 false),(4,1,false)] none):=by kernel_rfl
theorem uK:ti kd5 70=some (TI.mk 1 24 false (some (V.one L.nils)) TK.slice [] (some (EI.mk 2 40 (some (V.agg [L.d (D.str (ByteArray.mk (Array.mk []))),L.nils])) true)))
 := by kernel_rfl
theorem mJ:ti kd5 85=some (TI.mk 1 24 false (some (V.one L.nils)) TK.slice [] (some (EI.mk 1 8 (some (V.one (L.d (.int .i64 0)))) false))):=by kernel_rfl
theorem lI:ti kd5 87=some (TI.mk 6 144 true (some (V.agg [L.nils,L.nils,L.nils,L.nils,L.nils,L.nils])) TK.struct [(0,1,false),(1,5,true)] none):=by
 kernel_rfl
theorem sJ:ti kd5 89=some (TI.mk 12 288 true (some (V.agg [L.nils,L.nils,L.nils,L.nils,L.nils,L.nils,L.nils,L.nils,L.nils,L.nils,L.nils,L.nils])) TK.struct
 [(0,1,false),(1,5,true),(6,6,true)] none):=by kernel_rfl
theorem sK:ti kd5 126=some (TI.mk 5 64 true (some (V.agg [L.d (D.str (ByteArray.mk (Array.mk []))),L.d (.int .i64 0),L.d (.int .i64 0),L.d (D.int
 IntKind.i64 (0)),L.nils])) TK.struct [(0,1,false),(1,4,true)] none):=by kernel_rfl
theorem sL:ti kd5 133=some (TI.mk 5 80 true (some (V.agg [L.d (D.str (ByteArray.mk (Array.mk []))),L.d (.int .i64 0),L.d (.int .i64 0),L.nils,
 L.nils])) TK.struct [(0,1,false),(1,3,true),(4,1,false)] none):=by kernel_rfl
theorem mK:ti kd5 140=some (TI.mk 6 136 true (some (V.agg [L.d (D.str (ByteArray.mk (Array.mk []))),L.nils,L.nils,L.nils,L.nils,L.nils])) TK.struct [(0,1,false),
 (1,5,true)] none):=by kernel_rfl
theorem xH:ti kd5 156=some (TI.mk 2 40 true (some (V.agg [L.d (D.str (ByteArray.mk (Array.mk []))),L.nils])) TK.struct [(0,1,false),(1,1,false)] none):=by
 kernel_rfl
theorem sM:ti kd5 161=some (TI.mk 13 304 true (some (V.agg [L.d (D.str (ByteArray.mk (Array.mk []))),L.nils,L.nils,L.nils,L.nils,L.nils,L.nils,L.nils,L.nils,
 L.nils,L.nils,L.nils,L.nils])) TK.struct [(0,1,false),(1,12,true)] none):=by kernel_rfl
theorem sN:ti kd5 162=some (TI.mk 7 160 true (some (V.agg [L.d (D.str (ByteArray.mk (Array.mk []))),L.nils,L.nils,L.nils,L.nils,L.nils,L.nils])) TK.struct [(0,1,
 false),(1,6,true)] none):=by kernel_rfl
theorem jz2:ti kd5 187=some (TI.mk 1 8 false (some (V.one L.nilf)) TK.func [] none):=by kernel_rfl
theorem jz3:ti kd5 190=some (TI.mk 1 8 false (some (V.one L.nilf)) TK.func [] none):=by kernel_rfl
theorem jz4:ti kd5 193=some (TI.mk 1 8 false (some (V.one L.nilf)) TK.func [] none):=by kernel_rfl
theorem jz5:ti kd5 196=some (TI.mk 1 8 false (some (V.one L.nilf)) TK.func [] none):=by kernel_rfl
theorem jz6:ti kd5 199=some (TI.mk 1 8 false (some (V.one L.nilf)) TK.func [] none):=by kernel_rfl
theorem zq2:ti kd5 201=some (TI.mk 1 8 false (some (V.one (L.d D.nilp))) TK.ptr [] none):=by kernel_rfl
theorem zT4:ti kd5 202=some (TI.mk 1 8 false (some (V.one L.nilf)) TK.func [] none):=by kernel_rfl
theorem zT5:ti kd5 204=some (TI.mk 3 56 true (some (V.agg [L.nils,L.nils,L.nilf])) TK.struct [(0,1,false),(1,1,false),(2,1,false)] none):=by kernel_rfl
theorem sO:ti kd5 209=some (TI.mk 1 24 false (some (V.one L.nils)) TK.slice [] (some (EI.mk 2 16 (some (V.agg [L.d (.int .i64 0),L.d (D.int IntKind.i64
 (0))])) true))):=by kernel_rfl
theorem zT6:ti kd5 211=some (TI.mk 6 128 true (some (V.agg [L.nils,L.nils,L.nils,L.d (.int .i64 0),L.nils,L.nils])) TK.struct [(0,1,false),(1,1,
 false),(2,1,false),(3,1,false),(4,1,false),(5,1,false)] none):=by kernel_rfl
theorem jz7:ti kd5 212=some (TI.mk 1 8 false (some (V.one (L.d D.nilp))) TK.ptr [] none):=by kernel_rfl
theorem mL:ti kd5 213=some (TI.mk 1 24 false (some (V.one L.nils)) TK.slice [] (some (EI.mk 1 8 (some (V.one (L.d D.nilp))) false))):=by kernel_rfl
theorem zT7:ti kd5 215=some (TI.mk 3 56 true (some (V.agg [L.nils,L.d (.int .i64 0),L.nils])) TK.struct [(0,1,false),(1,1,false),(2,1,false)] none)
 := by kernel_rfl
theorem jz8:ti kd5 225=some (TI.mk 1 8 false (some (V.one (L.d D.nilp))) TK.ptr [] none):=by kernel_rfl
theorem zT8:ti kd5 227=some (TI.mk 2 48 true (some (V.agg [L.nils,L.nils])) TK.struct [(0,1,false),(1,1,false)] none):=by kernel_rfl
theorem zq3:ti kd5 285=some (TI.mk 1 24 false (some (V.one L.nils)) TK.slice [] (some (EI.mk 1 24 (some (V.one L.nils)) false))):=by kernel_rfl
theorem zT9:ti kd5 330=some (TI.mk 2 16 true (some (V.agg [L.d (.int .i64 0),L.d (.int .i64 0)])) TK.struct [(0,1,false),(1,1,false)] none):=
 by kernel_rfl
theorem zU0:ti kd5 345=some (TI.mk 1 8 false (some (V.one (L.d D.nilp))) TK.ptr [] none):=by kernel_rfl
theorem zU1:ti kd5 347=some (TI.mk 2 16 true (some (V.agg [L.d (.int .i64 0),L.d (.int .i64 0)])) TK.struct [(0,1,false),(1,1,false)] none):=
 by kernel_rfl
theorem zU2:ti kd5 413=some (TI.mk 2 32 true (some (V.agg [L.d (.int .i64 0),L.nils])) TK.struct [(0,1,false),(1,1,false)] none):=by kernel_rfl
theorem zq4:ti kd5 357=some (TI.mk 1 8 false (some (V.one (L.d (D.int IntKind.u64 (0))))) (TK.int IntKind.u64) [] none):=by kernel_rfl
def sg7:cF:=[(1,[([0,1,2,4,5,6,3,7,8,9,10,11,13,14,12,15,16,17,18,19,20,21,22,23,24,25,26],[(3,[4]),(12,[13,14])])])]
noncomputable def vc7:aC:=aP sg7 (aX Tryz.f7)
theorem fn7:aK kd5 7 35 vc7 [.tmp 8]:=⟨Tryz.f7,_,sg7,Tryz.func7,rfl,rfl,rfl,by kernel_rfl,by kernel_rfl,by kernel_rfl⟩
noncomputable def xI:aC:=aP [] (aX Tryz.f11)
theorem zU3:aK kd5 11 17 xI [.tmp 4]:=⟨Tryz.f11,_,[],Tryz.func11,rfl,rfl,rfl,by kernel_rfl,by kernel_rfl,by kernel_rfl⟩
noncomputable def xJ:aC:=aP [] (aX Tryz.f16)
theorem zU4:aK kd5 16 9 xJ [.tmp 4]:=⟨Tryz.f16,_,[],Tryz.func16,rfl,rfl,rfl,by kernel_rfl,by kernel_rfl,by kernel_rfl⟩
noncomputable def xK:aC:=aP [] (aX Tryz.f20)
theorem zU5:aK kd5 20 271 xK [.tmp 4]:=⟨Tryz.f20,_,[],Tryz.func20,rfl,rfl,rfl,by kernel_rfl,by kernel_rfl,by kernel_rfl⟩
noncomputable def xL:aC:=aP [] (aX Tryz.f24)
theorem zU6:aK kd5 24 17 xL [.tmp 4]:=⟨Tryz.f24,_,[],Tryz.func24,rfl,rfl,rfl,by kernel_rfl,by kernel_rfl,by kernel_rfl⟩
def zU7:cF:=[(1,[([0,1,3,4,6,7,9,10,12,13,2,5,8,11,14,15,16],[(2,[3,4,6,7,9,10,12,13]),(5,[6,7,9,10,12,13]),(8,[9,10,12,13]),(11,
 [12,13])])])]
noncomputable def zq5:aC:=aP zU7 (aX Tryz.f29)
theorem jz9:aK kd5 29 19 zq5 [.cell 2 65]:=⟨Tryz.f29,_,zU7,Tryz.func29,rfl,rfl,rfl,by kernel_rfl,by kernel_rfl,by kernel_rfl⟩
def zU8:cF:=[(1,[([0,2,1,3,4,5],[(1,[2])])])]
noncomputable def xM:aC:=aP zU8 (aX Tryz.f30)
theorem zU9:aK kd5 30 10 xM [.tmp 4]:=⟨Tryz.f30,_,zU8,Tryz.func30,rfl,rfl,rfl,by kernel_rfl,by kernel_rfl,by kernel_rfl⟩
def zV0:cF:=[(6,[([0,1,2,3,4,5,6,7,8,9,10,11,12,15,16,17,18,19,20,21,22,23,24,25,13,14,26,27,28,29,30,31,32,33],[(13,[0,1,2,3,4,5,
 15,16,17,18,24,25]),(14,[0,1,15,16,17,18,24,25]),(26,[0,1,2,3,4,5,11,12,15,16,17,18]),(27,[0,1]),(30,[1])]),([0,1,2,3,4,5,6,7,8,9,10,
 11,12,15,16,17,18,19,20,21,22,23,24,25,13,26,14,27,28,29,30,31,32,33],[]),([0,1,2,3,4,5,6,7,8,9,10,11,12,15,16,17,18,19,20,21,22,23,
 24,25,26,13,14,27,28,29,30,31,32,33],[])])]
noncomputable def zq6:aC:=aP zV0 (aX Tryz.f31)
theorem jA0:aK kd5 31 61 zq6 [.cell 6 87]:=⟨Tryz.f31,_,zV0,Tryz.func31,rfl,rfl,rfl,by kernel_rfl,by kernel_rfl,by kernel_rfl⟩
noncomputable def zq7:aC:=aP [] (aX Tryz.f32)
theorem jA1:aK kd5 32 19 zq7 [.cell 6 87]:=⟨Tryz.f32,_,[],Tryz.func32,rfl,rfl,rfl,by kernel_rfl,by kernel_rfl,by kernel_rfl⟩
def zV1:cF:=[(1,[([0,2,1,3,4,5],[(1,[2])])])]
noncomputable def zq8:aC:=aP zV1 (aX Tryz.f33)
theorem jA2:aK kd5 33 10 zq8 [.tmp 4]:=⟨Tryz.f33,_,zV1,Tryz.func33,rfl,rfl,rfl,by kernel_rfl,by kernel_rfl,by kernel_rfl⟩
def zV2:cF:=[(2,[([0,1,2,3,4,5,6,7,8],[(5,[1,2])])])]
noncomputable def zq9:aC:=aP zV2 (aX Tryz.f34)
theorem jA3:aK kd5 34 16 zq9 [.cell 2 87]:=⟨Tryz.f34,_,zV2,Tryz.func34,rfl,rfl,rfl,by kernel_rfl,by kernel_rfl,by kernel_rfl⟩
noncomputable def zr0:aC:=aP [] (aX Tryz.f36)
theorem jA4:aK kd5 36 11 zr0 [.tmp 2]:=⟨Tryz.f36,_,[],Tryz.func36,rfl,rfl,rfl,by kernel_rfl,by kernel_rfl,by kernel_rfl⟩
noncomputable def xN:aC:=aP [] (aX Tryz.f61)
theorem zV3:aK kd5 61 57 xN [.tmp 4]:=⟨Tryz.f61,_,[],Tryz.func61,rfl,rfl,rfl,by kernel_rfl,by kernel_rfl,by kernel_rfl⟩
noncomputable def xO:aC:=aP [] (aX Tryz.f65)
theorem zV4:aK kd5 65 72 xO [.tmp 4]:=⟨Tryz.f65,_,[],Tryz.func65,rfl,rfl,rfl,by kernel_rfl,by kernel_rfl,by kernel_rfl⟩
noncomputable def xP:aC:=aP [] (aX Tryz.f66)
theorem zV5:aK kd5 66 26 xP [.tmp 4]:=⟨Tryz.f66,_,[],Tryz.func66,rfl,rfl,rfl,by kernel_rfl,by kernel_rfl,by kernel_rfl⟩
noncomputable def zr1:aC:=aP [] (aX Tryz.f84)
theorem jA5:aK kd5 84 5 zr1 [.tmp 2]:=⟨Tryz.f84,_,[],Tryz.func84,rfl,rfl,rfl,by kernel_rfl,by kernel_rfl,by kernel_rfl⟩
noncomputable def zr2:aC:=aP [] (aX Tryz.f85)
theorem jA6:aK kd5 85 4 zr2 [.cell 2 133]:=⟨Tryz.f85,_,[],Tryz.func85,rfl,rfl,rfl,by kernel_rfl,by kernel_rfl,by kernel_rfl⟩
noncomputable def zr3:aC:=aP [] (aX Tryz.f87)
theorem jA7:aK kd5 87 5 zr3 [.tmp 2]:=⟨Tryz.f87,_,[],Tryz.func87,rfl,rfl,rfl,by kernel_rfl,by kernel_rfl,by kernel_rfl⟩
noncomputable def zr4:aC:=aP [] (aX Tryz.f88)
theorem jA8:aK kd5 88 4 zr4 [.cell 2 126]:=⟨Tryz.f88,_,[],Tryz.func88,rfl,rfl,rfl,by kernel_rfl,by kernel_rfl,by kernel_rfl⟩
noncomputable def zr5:aC:=aP [] (aX Tryz.f90)
theorem jA9:aK kd5 90 5 zr5 [.tmp 2]:=⟨Tryz.f90,_,[],Tryz.func90,rfl,rfl,rfl,by kernel_rfl,by kernel_rfl,by kernel_rfl⟩
def zV6:cF:=[(1,[([0,1,2,3,4,5,6],[(4,[0,1])])])]
noncomputable def zr6:aC:=aP zV6 (aX Tryz.f91)
theorem jB0:aK kd5 91 9 zr6 [.cell 2 140]:=⟨Tryz.f91,_,zV6,Tryz.func91,rfl,rfl,rfl,by kernel_rfl,by kernel_rfl,by kernel_rfl⟩
noncomputable def zr7:aC:=aP [] (aX Tryz.f93)
theorem jB1:aK kd5 93 5 zr7 [.tmp 2]:=⟨Tryz.f93,_,[],Tryz.func93,rfl,rfl,rfl,by kernel_rfl,by kernel_rfl,by kernel_rfl⟩
def zV7:cF:=[(2,[([0,1,2,3,4,5,7,8,9,10,11,12,6,13,14,15,16,17],[(6,[0,1,2,3,7,8,9,10,11,12]),(13,[0,1,2,3,7,8,9])])])]
noncomputable def zr8:aC:=aP zV7 (aX Tryz.f94)
theorem jB2:aK kd5 94 23 zr8 [.cell 2 161]:=⟨Tryz.f94,_,zV7,Tryz.func94,rfl,rfl,rfl,by kernel_rfl,by kernel_rfl,by kernel_rfl⟩
noncomputable def zr9:aC:=aP [] (aX Tryz.f96)
theorem jB3:aK kd5 96 5 zr9 [.tmp 2]:=⟨Tryz.f96,_,[],Tryz.func96,rfl,rfl,rfl,by kernel_rfl,by kernel_rfl,by kernel_rfl⟩
def zV8:cF:=[(1,[([0,1,2,3,4,5,6,7,8,9,10,11],[(8,[0,1,2,3,4])])])]
noncomputable def zs0:aC:=aP zV8 (aX Tryz.f97)
theorem jB4:aK kd5 97 14 zs0 [.cell 2 162]:=⟨Tryz.f97,_,zV8,Tryz.func97,rfl,rfl,rfl,by kernel_rfl,by kernel_rfl,by kernel_rfl⟩
def zV9:cF:=[(2,[([0,1,2,3,4,5,6,7,8],[(5,[1,2])])])]
noncomputable def zs1:aC:=aP zV9 (aX Tryz.f98)
theorem jB5:aK kd5 98 16 zs1 [.cell 2 87]:=⟨Tryz.f98,_,zV9,Tryz.func98,rfl,rfl,rfl,by kernel_rfl,by kernel_rfl,by kernel_rfl⟩
noncomputable def zs2:aC:=aP [] (aX Tryz.f99)
theorem jB6:aK kd5 99 50 zs2 [.tmp 5]:=⟨Tryz.f99,_,[],Tryz.func99,rfl,rfl,rfl,by kernel_rfl,by kernel_rfl,by kernel_rfl⟩
noncomputable def xQ:aC:=aP [] (aX Tryz.f100)
theorem zW0:aK kd5 100 9 xQ [.tmp 4]:=⟨Tryz.f100,_,[],Tryz.func100,rfl,rfl,rfl,by kernel_rfl,by kernel_rfl,by kernel_rfl⟩
noncomputable def zs3:aC:=aP [] (aX Tryz.f101)
theorem jB7:aK kd5 101 30 zs3 [.cell 4 3]:=⟨Tryz.f101,_,[],Tryz.func101,rfl,rfl,rfl,by kernel_rfl,by kernel_rfl,by kernel_rfl⟩
noncomputable def zs4:aC:=aP [] (aX Tryz.f102)
theorem jB8:aK kd5 102 10 zs4 [.tmp 2]:=⟨Tryz.f102,_,[],Tryz.func102,rfl,rfl,rfl,by kernel_rfl,by kernel_rfl,by kernel_rfl⟩
noncomputable def zs5:aC:=aP [] (aX Tryz.f103)
theorem jB9:aK kd5 103 22 zs5 [.cell 4 87]:=⟨Tryz.f103,_,[],Tryz.func103,rfl,rfl,rfl,by kernel_rfl,by kernel_rfl,by kernel_rfl⟩
noncomputable def xR:aC:=aP [] (aX Tryz.f104)
theorem zW1:aK kd5 104 13 xR [.tmp 2]:=⟨Tryz.f104,_,[],Tryz.func104,rfl,rfl,rfl,by kernel_rfl,by kernel_rfl,by kernel_rfl⟩
def zW2:cF:=[(3,[([0,1,2,3,5,4,6,7],[(4,[5])])])]
noncomputable def zs6:aC:=aP zW2 (aX Tryz.f105)
theorem jC0:aK kd5 105 21 zs6 [.cell 4 87]:=⟨Tryz.f105,_,zW2,Tryz.func105,rfl,rfl,rfl,by kernel_rfl,by kernel_rfl,by kernel_rfl⟩
noncomputable def zs7:aC:=aP [] (aX Tryz.f106)
theorem jC1:aK kd5 106 17 zs7 [.tmp 4]:=⟨Tryz.f106,_,[],Tryz.func106,rfl,rfl,rfl,by kernel_rfl,by kernel_rfl,by kernel_rfl⟩
noncomputable def zs8:aC:=aP [] (aX Tryz.f107)
theorem jC2:aK kd5 107 13 zs8 [.cell 4 87]:=⟨Tryz.f107,_,[],Tryz.func107,rfl,rfl,rfl,by kernel_rfl,by kernel_rfl,by kernel_rfl⟩
noncomputable def zs9:aC:=aP [] (aX Tryz.f110)
theorem jC3:aK kd5 110 9 zs9 []:=⟨Tryz.f110,_,[],Tryz.func110,rfl,rfl,rfl,by kernel_rfl,by kernel_rfl,by kernel_rfl⟩
noncomputable def zt0:aC:=aP [] (aX Tryz.f111)
theorem jC4:aK kd5 111 13 zt0 [.tmp 2]:=⟨Tryz.f111,_,[],Tryz.func111,rfl,rfl,rfl,by kernel_rfl,by kernel_rfl,by kernel_rfl⟩
noncomputable def xS:aC:=aP [] (aX Tryz.f119)
theorem zW3:aK kd5 119 11 xS [.tmp 4]:=⟨Tryz.f119,_,[],Tryz.func119,rfl,rfl,rfl,by kernel_rfl,by kernel_rfl,by kernel_rfl⟩
def zW4:cF:=[(1,[([0,1,3,4,2,5,6,7],[(2,[3,4])])])]
noncomputable def zt1:aC:=aP zW4 (aX Tryz.f128)
theorem jC5:aK kd5 128 13 zt1 [.tmp 5]:=⟨Tryz.f128,_,zW4,Tryz.func128,rfl,rfl,rfl,by kernel_rfl,by kernel_rfl,by kernel_rfl⟩
noncomputable def zt2:aC:=aP [] (aX Tryz.f129)
theorem jC6:aK kd5 129 8 zt2 [.tmp 4]:=⟨Tryz.f129,_,[],Tryz.func129,rfl,rfl,rfl,by kernel_rfl,by kernel_rfl,by kernel_rfl⟩
def zW5:cF:=[(1,[([0,1,3,4,2,5,6,7],[(2,[3,4])])])]
noncomputable def zt3:aC:=aP zW5 (aX Tryz.f132)
theorem jC7:aK kd5 132 13 zt3 [.tmp 5]:=⟨Tryz.f132,_,zW5,Tryz.func132,rfl,rfl,rfl,by kernel_rfl,by kernel_rfl,by kernel_rfl⟩
def zW6:cF:=[(1,[([0,1,3,4,2,5,6,7],[(2,[3,4])])])]
noncomputable def zt4:aC:=aP zW6 (aX Tryz.f135)
theorem jC8:aK kd5 135 13 zt4 [.tmp 5]:=⟨Tryz.f135,_,zW6,Tryz.func135,rfl,rfl,rfl,by kernel_rfl,by kernel_rfl,by kernel_rfl⟩
def zW7:cF:=[(1,[([0,1,3,4,2,5,6,7],[(2,[3,4])])])]
noncomputable def zt5:aC:=aP zW7 (aX Tryz.f138)
theorem jC9:aK kd5 138 13 zt5 [.tmp 5]:=⟨Tryz.f138,_,zW7,Tryz.func138,rfl,rfl,rfl,by kernel_rfl,by kernel_rfl,by kernel_rfl⟩
def zW8:cF:=[(1,[([0,1,3,4,2,5,6,7],[(2,[3,4])])])]
noncomputable def zt6:aC:=aP zW8 (aX Tryz.f141)
theorem jD0:aK kd5 141 13 zt6 [.tmp 5]:=⟨Tryz.f141,_,zW8,Tryz.func141,rfl,rfl,rfl,by kernel_rfl,by kernel_rfl,by kernel_rfl⟩
def zW9:cF:=[(6,[([0,1,2,3,4,5,6,7,8,9,10],[(7,[0,1])])]),(16,[([0,1,2,3,4,5,6,7,8,9,10],[(7,[0,1])])]),(26,[([0,1,2,3,4,5,6,7,8,9,
 10,11,12,13,14,15,16,17,18,19],[(14,[0,1,2,3,5,6,7]),(16,[0,1])])])]
noncomputable def zt7:aC:=aP zW9 (aX Tryz.f142)
theorem jD1:aK kd5 142 217 zt7 [.cell 2 65]:=⟨Tryz.f142,_,zW9,Tryz.func142,rfl,rfl,rfl,by kernel_rfl,by kernel_rfl,by kernel_rfl⟩
noncomputable def xT:aC:=aP [] (aX Tryz.f143)
theorem zX0:aK kd5 143 19 xT [.tmp 4]:=⟨Tryz.f143,_,[],Tryz.func143,rfl,rfl,rfl,by kernel_rfl,by kernel_rfl,by kernel_rfl⟩
noncomputable def zt8:aC:=aP [] (aX Tryz.f144)
theorem jD2:aK kd5 144 4 zt8 [.tmp 2]:=⟨Tryz.f144,_,[],Tryz.func144,rfl,rfl,rfl,by kernel_rfl,by kernel_rfl,by kernel_rfl⟩
noncomputable def zt9:aC:=aP [] (aX Tryz.f145)
theorem jD3:aK kd5 145 9 zt9 [.tmp 4]:=⟨Tryz.f145,_,[],Tryz.func145,rfl,rfl,rfl,by kernel_rfl,by kernel_rfl,by kernel_rfl⟩
noncomputable def xU:aC:=aP [] (aX Tryz.f146)
theorem zX1:aK kd5 146 7 xU [.tmp 3]:=⟨Tryz.f146,_,[],Tryz.func146,rfl,rfl,rfl,by kernel_rfl,by kernel_rfl,by kernel_rfl⟩
noncomputable def zu0:aC:=aP [] (aX Tryz.f147)
theorem jD4:aK kd5 147 79 zu0 []:=⟨Tryz.f147,_,[],Tryz.func147,rfl,rfl,rfl,by kernel_rfl,by kernel_rfl,by kernel_rfl⟩
noncomputable def zu1:aC:=aP [] (aX Tryz.f149)
theorem jD5:aK kd5 149 11 zu1 []:=⟨Tryz.f149,_,[],Tryz.func149,rfl,rfl,rfl,by kernel_rfl,by kernel_rfl,by kernel_rfl⟩
def zX2:cF:=[(5,[([0,1,2,3,4,5,6,7,8],[(5,[0,1]),(7,[0,1,2,3,4])]),([0,1,2,3,4,7,5,6,8],[]),([0,1,2,3,4,7,5,6,8],[])]),(9,[([0,1,
 2,3,4,5,6,7,8,9,10,11,12],[(7,[0,1,2,3]),(9,[0,1])])]),(16,[([0,1,2,3,4,5,6,7,8,9,10,11,12,13,14,15,16,17],[(11,[0,1,2,3,4,5,6]),(14,
 [0,1])])]),(21,[([0,1,2,3,4,7,5,6,8,9,10,12,11,13],[(5,[0,1,7]),(8,[0,1,3,4,7]),(11,[12]),(13,[10])]),([0,1,2,3,4,7,5,6,8,9,10,12,13,
 11],[]),([0,1,2,3,4,7,8,5,6,9,10,12,11,13],[]),([0,1,2,3,4,7,8,5,6,9,10,12,13,11],[])]),(25,[([0,1,2,3,4,5,6,9,7,8,10,11,12,14,13,
 15],[(7,[0,1,2,3,9]),(10,[0,1,2,3,4,5,6,9]),(13,[14]),(15,[12])]),([0,1,2,3,4,5,6,9,7,8,10,11,12,14,15,13],[]),([0,1,2,3,4,5,6,9,10,
 7,8,11,12,14,13,15],[]),([0,1,2,3,4,5,6,9,10,7,8,11,12,14,15,13],[])]),(30,[([0,1,2,3,4,5,6,9,7,8,10,11,12,14,13,15],[(7,[0,1,2,3,
 9]),(10,[0,1,2,3,4,5,6,9]),(13,[14]),(15,[12])]),([0,1,2,3,4,5,6,9,7,8,10,11,12,14,15,13],[]),([0,1,2,3,4,5,6,9,10,7,8,11,12,14,13,
 15],[]),([0,1,2,3,4,5,6,9,10,7,8,11,12,14,15,13],[])])]
noncomputable def zu2:aC:=aP zX2 (aX Tryz.f150)
theorem jD6:aK kd5 150 146 zu2 [.cell 4 65]:=⟨Tryz.f150,_,zX2,Tryz.func150,rfl,rfl,rfl,by kernel_rfl,by kernel_rfl,by kernel_rfl⟩
def zX3:cF:=[(3,[([0,1,2,3,4,5,6,7,8,9,10,11,12,13,14],[(10,[2,3,4])])])]
noncomputable def zu3:aC:=aP zX3 (aX Tryz.f151)
theorem jD7:aK kd5 151 25 zu3 []:=⟨Tryz.f151,_,zX3,Tryz.func151,rfl,rfl,rfl,by kernel_rfl,by kernel_rfl,by kernel_rfl⟩
def zX4:cF:=[(5,[([0,1,2,3,4,5,6,7,8,9,10,11,12,13,14,15,16],[(13,[0,1,3,4,5]),(15,[0,1,3,4,5,7,8,10,11,12])]),([0,1,2,3,4,5,6,7,
 8,9,10,11,12,15,13,14,16],[]),([0,1,2,3,4,5,6,7,8,9,10,11,12,15,13,14,16],[])]),(12,[([0,1,2,3,4,5,6,7,8,9,10,11,12,13,14,15,16,17],
 [(11,[0,1,2,3,4,5,6]),(14,[0,1])])]),(16,[([0,1,2,3,4,5,6,7,8,9,10,11,12,13,14,15,16,17,18,19,20],[(15,[0,1,2,3,5,6,7]),(17,[0,1])])]),
 (20,[([0,1,2,3,4,5,6,7,8,9,10,11,12,13,14,15,16,17,18,19,20],[(15,[0,1,2,3,5,6,7]),(17,[0,1])])]),(24,[([0,1,2,3,4,5,6,7,8,9,10,11,
 12,13,14,15,16,17,18,19,20],[(15,[0,1,2,3,5,6,7]),(17,[0,1])])])]
noncomputable def zu4:aC:=aP zX4 (aX Tryz.f152)
theorem jD8:aK kd5 152 161 zu4 [.cell 4 65]:=⟨Tryz.f152,_,zX4,Tryz.func152,rfl,rfl,rfl,by kernel_rfl,by kernel_rfl,by kernel_rfl⟩
noncomputable def zu5:aC:=aP [] (aX Tryz.f153)
theorem jD9:aK kd5 153 55 zu5 [.tmp 4]:=⟨Tryz.f153,_,[],Tryz.func153,rfl,rfl,rfl,by kernel_rfl,by kernel_rfl,by kernel_rfl⟩
noncomputable def zu6:aC:=aP [] (aX Tryz.f154)
theorem jE0:aK kd5 154 26 zu6 [.tmp 4]:=⟨Tryz.f154,_,[],Tryz.func154,rfl,rfl,rfl,by kernel_rfl,by kernel_rfl,by kernel_rfl⟩
noncomputable def zu7:aC:=aP [] (aX Tryz.f155)
theorem jE1:aK kd5 155 38 zu7 [.tmp 4]:=⟨Tryz.f155,_,[],Tryz.func155,rfl,rfl,rfl,by kernel_rfl,by kernel_rfl,by kernel_rfl⟩
noncomputable def zu8:aC:=aP [] (aX Tryz.f156)
theorem jE2:aK kd5 156 75 zu8 [.tmp 6]:=⟨Tryz.f156,_,[],Tryz.func156,rfl,rfl,rfl,by kernel_rfl,by kernel_rfl,by kernel_rfl⟩
noncomputable def zu9:aC:=aP [] (aX Tryz.f157)
theorem jE3:aK kd5 157 8 zu9 []:=⟨Tryz.f157,_,[],Tryz.func157,rfl,rfl,rfl,by kernel_rfl,by kernel_rfl,by kernel_rfl⟩
def zX5:cF:=[(5,[([0,1,2,3,4,5,6,7,8],[(5,[0,1]),(7,[0,1,2,3,4])]),([0,1,2,3,4,7,5,6,8],[]),([0,1,2,3,4,7,5,6,8],[])]),(13,[([0,1,
 2,3,4,5,6,7,8],[(4,[0,1]),(5,[0,1])])]),(22,[([0,1,2,3,4,5,6,7,8,9,10,11,12,13,14,15,16,17],[(11,[0,1,2,3,4,5,6]),(14,[0,1])])]),(27,
 [([0,1,2,3,4,7,5,6,8,9,10,12,11,13],[(5,[0,1,7]),(8,[0,1,3,4,7]),(11,[12]),(13,[10])]),([0,1,2,3,4,7,5,6,8,9,10,12,13,11],[]),([0,1,2,
 3,4,7,8,5,6,9,10,12,11,13],[]),([0,1,2,3,4,7,8,5,6,9,10,12,13,11],[])]),(33,[([0,1,2,3,4,5,6,7,8,9,11,10,12],[(7,[0,1,2,3,4,6]),
 (10,[11]),(12,[9])]),([0,1,2,3,4,5,6,7,8,9,11,12,10],[]),([0,1,2,3,4,5,6,7,8,9,11,12,10],[])]),(38,[([0,1,2,3,4,5,6,9,7,8,10,11,12,
 14,13,15],[(7,[0,1,2,3,9]),(10,[0,1,2,3,4,5,6,9]),(13,[14]),(15,[12])]),([0,1,2,3,4,5,6,9,7,8,10,11,12,14,15,13],[]),([0,1,2,3,4,5,6,
 9,10,7,8,11,12,14,13,15],[]),([0,1,2,3,4,5,6,9,10,7,8,11,12,14,15,13],[])])]
noncomputable def zv0:aC:=aP zX5 (aX Tryz.f158)
theorem jE4:aK kd5 158 167 zv0 [.cell 4 65]:=⟨Tryz.f158,_,zX5,Tryz.func158,rfl,rfl,rfl,by kernel_rfl,by kernel_rfl,by kernel_rfl⟩
noncomputable def zv1:aC:=aP [] (aX Tryz.f162)
theorem jE5:aK kd5 162 4 zv1 [.tmp 2]:=⟨Tryz.f162,_,[],Tryz.func162,rfl,rfl,rfl,by kernel_rfl,by kernel_rfl,by kernel_rfl⟩
noncomputable def zv2:aC:=aP [] (aX Tryz.f164)
theorem jE6:aK kd5 164 6 zv2 []:=⟨Tryz.f164,_,[],Tryz.func164,rfl,rfl,rfl,by kernel_rfl,by kernel_rfl,by kernel_rfl⟩
noncomputable def zv3:aC:=aP [] (aX Tryz.f165)
theorem jE7:aK kd5 165 8 zv3 [.tmp 2]:=⟨Tryz.f165,_,[],Tryz.func165,rfl,rfl,rfl,by kernel_rfl,by kernel_rfl,by kernel_rfl⟩
noncomputable def zv4:aC:=aP [] (aX Tryz.f167)
theorem jE8:aK kd5 167 61 zv4 [.tmp 2]:=⟨Tryz.f167,_,[],Tryz.func167,rfl,rfl,rfl,by kernel_rfl,by kernel_rfl,by kernel_rfl⟩
noncomputable def zv5:aC:=aP [] (aX Tryz.f186)
theorem jE9:aK kd5 186 20 zv5 [.tmp 4]:=⟨Tryz.f186,_,[],Tryz.func186,rfl,rfl,rfl,by kernel_rfl,by kernel_rfl,by kernel_rfl⟩
noncomputable def zv6:aC:=aP [] (aX Tryz.f191)
theorem jF0:aK kd5 191 42 zv6 [.tmp 4]:=⟨Tryz.f191,_,[],Tryz.func191,rfl,rfl,rfl,by kernel_rfl,by kernel_rfl,by kernel_rfl⟩
def zX6:cF:=[(7,[([0,1,2,3,4,5,6,7,8,9,11,12,13,14,15,16,10,17,18,19,20,21,22,23],[(10,[3,4,5,6,7,11,12,13,14,15,16]),(17,[3,4,5,
 6,7,11,12,13])])])]
noncomputable def zv7:aC:=aP zX6 (aX Tryz.f192)
theorem jF1:aK kd5 192 81 zv7 [.tmp 2]:=⟨Tryz.f192,_,zX6,Tryz.func192,rfl,rfl,rfl,by kernel_rfl,by kernel_rfl,by kernel_rfl⟩
def zX7:cF:=[(6,[([0,1,2,3,4,5,6,7,8,9,10,11,12,13,14,15,16,17,18,19,20,21,22,23],[(18,[3,4,5,8,9,10,11])])])]
noncomputable def zv8:aC:=aP zX7 (aX Tryz.f193)
theorem jF2:aK kd5 193 75 zv8 [.tmp 2]:=⟨Tryz.f193,_,zX7,Tryz.func193,rfl,rfl,rfl,by kernel_rfl,by kernel_rfl,by kernel_rfl⟩
noncomputable def zv9:aC:=aP [] (aX Tryz.f194)
noncomputable def zw0:aC:=aP [] (aX Tryz.f195)
theorem jF3:aK kd5 195 19 zw0 [.tmp 4]:=⟨Tryz.f195,_,[],Tryz.func195,rfl,rfl,rfl,by kernel_rfl,by kernel_rfl,by kernel_rfl⟩
noncomputable def zw1:aC:=aP [] (aX Tryz.f196)
theorem jF4:aK kd5 196 40 zw1 []:=⟨Tryz.f196,_,[],Tryz.func196,rfl,rfl,rfl,by kernel_rfl,by kernel_rfl,by kernel_rfl⟩
noncomputable def zw2:aC:=aP [] (aX Tryz.f197)
theorem jF5:aK kd5 197 17 zw2 []:=⟨Tryz.f197,_,[],Tryz.func197,rfl,rfl,rfl,by kernel_rfl,by kernel_rfl,by kernel_rfl⟩
noncomputable def zw3:aC:=aP [] (aX Tryz.f198)
theorem jF6:aK kd5 198 9 zw3 []:=⟨Tryz.f198,_,[],Tryz.func198,rfl,rfl,rfl,by kernel_rfl,by kernel_rfl,by kernel_rfl⟩
def zX8:cF:=[(0,[([0,1,2,3,4,5,6,7,8,9,10,11,12,13,14,15,16,17,18,19],[(16,[13])])])]
noncomputable def xV:aC:=aP zX8 (aX Tryz.f199)
theorem zX9:aK kd5 199 20 xV []:=⟨Tryz.f199,_,zX8,Tryz.func199,rfl,rfl,rfl,by kernel_rfl,by kernel_rfl,by kernel_rfl⟩
def zY0:cF:=[(7,[([0,1,2,3,4,5,6,7],[(5,[0,1])])])]
noncomputable def zw4:aC:=aP zY0 (aX Tryz.f200)
theorem jF7:aK kd5 200 36 zw4 [.cell 4 32]:=⟨Tryz.f200,_,zY0,Tryz.func200,rfl,rfl,rfl,by kernel_rfl,by kernel_rfl,by kernel_rfl⟩
noncomputable def zw5:aC:=aP [] (aX Tryz.f201)
theorem jF8:aK kd5 201 22 zw5 [.tmp 4]:=⟨Tryz.f201,_,[],Tryz.func201,rfl,rfl,rfl,by kernel_rfl,by kernel_rfl,by kernel_rfl⟩
noncomputable def zw6:aC:=aP [] (aX Tryz.f202)
theorem jF9:aK kd5 202 26 zw6 [.cell 4 89]:=⟨Tryz.f202,_,[],Tryz.func202,rfl,rfl,rfl,by kernel_rfl,by kernel_rfl,by kernel_rfl⟩
def zY1:cF:=[(8,[([0,1,2,3,4,5,6,7,8,9,10,11,12],[(8,[0,1]),(9,[0,1])])])]
noncomputable def zw7:aC:=aP zY1 (aX Tryz.f203)
theorem jG0:aK kd5 203 37 zw7 [.cell 4 32]:=⟨Tryz.f203,_,zY1,Tryz.func203,rfl,rfl,rfl,by kernel_rfl,by kernel_rfl,by kernel_rfl⟩
def zY2:cF:=[(9,[([0,1,2,3,4,5,6,7,8,9,10,11,12,13,14,15],[(11,[0,1]),(12,[0,1])])])]
noncomputable def zw8:aC:=aP zY2 (aX Tryz.f204)
theorem jG1:aK kd5 204 51 zw8 [.tmp 4]:=⟨Tryz.f204,_,zY2,Tryz.func204,rfl,rfl,rfl,by kernel_rfl,by kernel_rfl,by kernel_rfl⟩
def zY3:cF:=[(4,[([0,1,2,3,5,6,4,7,8],[(4,[5,6])])])]
noncomputable def zw9:aC:=aP zY3 (aX Tryz.f205)
theorem jG2:aK kd5 205 27 zw9 [.cell 4 89]:=⟨Tryz.f205,_,zY3,Tryz.func205,rfl,rfl,rfl,by kernel_rfl,by kernel_rfl,by kernel_rfl⟩
noncomputable def pE:aC:=aP [] (aX Tryz.f206)
theorem zc8:aK kd5 206 55 pE [.tmp 4]:=⟨Tryz.f206,_,[],Tryz.func206,rfl,rfl,rfl,by kernel_rfl,by kernel_rfl,by kernel_rfl⟩
noncomputable def zx0:aC:=aP [] (aX Tryz.f207)
theorem jG3:aK kd5 207 32 zx0 [.tmp 6]:=⟨Tryz.f207,_,[],Tryz.func207,rfl,rfl,rfl,by kernel_rfl,by kernel_rfl,by kernel_rfl⟩
noncomputable def zx1:aC:=aP [] (aX Tryz.f208)
theorem jG4:aK kd5 208 24 zx1 [.tmp 4]:=⟨Tryz.f208,_,[],Tryz.func208,rfl,rfl,rfl,by kernel_rfl,by kernel_rfl,by kernel_rfl⟩
noncomputable def zx2:aC:=aP [] (aX Tryz.f209)
theorem jG5:aK kd5 209 9 zx2 [.tmp 4]:=⟨Tryz.f209,_,[],Tryz.func209,rfl,rfl,rfl,by kernel_rfl,by kernel_rfl,by kernel_rfl⟩
noncomputable def zx3:aC:=aP [] (aX Tryz.f210)
theorem jG6:aK kd5 210 32 zx3 [.tmp 6]:=⟨Tryz.f210,_,[],Tryz.func210,rfl,rfl,rfl,by kernel_rfl,by kernel_rfl,by kernel_rfl⟩
noncomputable def zx4:aC:=aP [] (aX Tryz.f211)
theorem jG7:aK kd5 211 17 zx4 [.tmp 4]:=⟨Tryz.f211,_,[],Tryz.func211,rfl,rfl,rfl,by kernel_rfl,by kernel_rfl,by kernel_rfl⟩
noncomputable def zx5:aC:=aP [] (aX Tryz.f212)
theorem jG8:aK kd5 212 8 zx5 [.tmp 4]:=⟨Tryz.f212,_,[],Tryz.func212,rfl,rfl,rfl,by kernel_rfl,by kernel_rfl,by kernel_rfl⟩
noncomputable def zx6:aC:=aP [] (aX Tryz.f213)
theorem jG9:aK kd5 213 32 zx6 [.tmp 6]:=⟨Tryz.f213,_,[],Tryz.func213,rfl,rfl,rfl,by kernel_rfl,by kernel_rfl,by kernel_rfl⟩
noncomputable def zx7:aC:=aP [] (aX Tryz.f214)
theorem jH0:aK kd5 214 17 zx7 [.tmp 4]:=⟨Tryz.f214,_,[],Tryz.func214,rfl,rfl,rfl,by kernel_rfl,by kernel_rfl,by kernel_rfl⟩
noncomputable def zx8:aC:=aP [] (aX Tryz.f215)
theorem jH1:aK kd5 215 17 zx8 [.tmp 4]:=⟨Tryz.f215,_,[],Tryz.func215,rfl,rfl,rfl,by kernel_rfl,by kernel_rfl,by kernel_rfl⟩
noncomputable def zx9:aC:=aP [] (aX Tryz.f216)
theorem jH2:aK kd5 216 32 zx9 [.tmp 6]:=⟨Tryz.f216,_,[],Tryz.func216,rfl,rfl,rfl,by kernel_rfl,by kernel_rfl,by kernel_rfl⟩
noncomputable def zy0:aC:=aP [] (aX Tryz.f217)
theorem jH3:aK kd5 217 17 zy0 [.tmp 4]:=⟨Tryz.f217,_,[],Tryz.func217,rfl,rfl,rfl,by kernel_rfl,by kernel_rfl,by kernel_rfl⟩
noncomputable def zy1:aC:=aP [] (aX Tryz.f218)
theorem jH4:aK kd5 218 32 zy1 [.tmp 6]:=⟨Tryz.f218,_,[],Tryz.func218,rfl,rfl,rfl,by kernel_rfl,by kernel_rfl,by kernel_rfl⟩
noncomputable def zy2:aC:=aP [] (aX Tryz.f219)
theorem jH5:aK kd5 219 37 zy2 [.tmp 4]:=⟨Tryz.f219,_,[],Tryz.func219,rfl,rfl,rfl,by kernel_rfl,by kernel_rfl,by kernel_rfl⟩
noncomputable def zy3:aC:=aP [] (aX Tryz.f220)
theorem jH6:aK kd5 220 32 zy3 [.tmp 6]:=⟨Tryz.f220,_,[],Tryz.func220,rfl,rfl,rfl,by kernel_rfl,by kernel_rfl,by kernel_rfl⟩
noncomputable def zy4:aC:=aP [] (aX Tryz.f221)
theorem jH7:aK kd5 221 17 zy4 [.tmp 4]:=⟨Tryz.f221,_,[],Tryz.func221,rfl,rfl,rfl,by kernel_rfl,by kernel_rfl,by kernel_rfl⟩
def zY4:cF:=[(7,[([0,1,2,3,4,5,6,7],[(5,[0,1])])])]
noncomputable def zy5:aC:=aP zY4 (aX Tryz.f222)
theorem jH8:aK kd5 222 36 zy5 [.cell 4 32]:=⟨Tryz.f222,_,zY4,Tryz.func222,rfl,rfl,rfl,by kernel_rfl,by kernel_rfl,by kernel_rfl⟩
def zY5:cF:=[(0,[([0,1,2,3,5,6,7,8,4,10,9,11,12,13],[(4,[5,6,7,8]),(9,[10])])])]
noncomputable def zy6:aC:=aP zY5 (aX Tryz.f223)
theorem jH9:aK kd5 223 15 zy6 []:=⟨Tryz.f223,_,zY5,Tryz.func223,rfl,rfl,rfl,by kernel_rfl,by kernel_rfl,by kernel_rfl⟩
noncomputable def zc9:aC:=aP [] (aX Tryz.f229)
noncomputable def xW:aC:=aP [] (aX Tryz.f230)
theorem zY6:aK kd5 230 11 xW []:=⟨Tryz.f230,_,[],Tryz.func230,rfl,rfl,rfl,by kernel_rfl,by kernel_rfl,by kernel_rfl⟩
noncomputable def zy7:aC:=aP [] (aX Tryz.f240)
theorem jI0:aK kd5 240 6 zy7 [.tmp 2]:=⟨Tryz.f240,_,[],Tryz.func240,rfl,rfl,rfl,by kernel_rfl,by kernel_rfl,by kernel_rfl⟩
noncomputable def zy8:aC:=aP [] (aX Tryz.f249)
theorem jI1:aK kd5 249 5 zy8 [.tmp 2]:=⟨Tryz.f249,_,[],Tryz.func249,rfl,rfl,rfl,by kernel_rfl,by kernel_rfl,by kernel_rfl⟩
noncomputable def zy9:aC:=aP [] (aX Tryz.f250)
theorem jI2:aK kd5 250 16 zy9 []:=⟨Tryz.f250,_,[],Tryz.func250,rfl,rfl,rfl,by kernel_rfl,by kernel_rfl,by kernel_rfl⟩
noncomputable def zz0:aC:=aP [] (aX Tryz.f251)
theorem jI3:aK kd5 251 10 zz0 []:=⟨Tryz.f251,_,[],Tryz.func251,rfl,rfl,rfl,by kernel_rfl,by kernel_rfl,by kernel_rfl⟩
noncomputable def jI4:aC:=aP [] (aX Tryz.f252)
theorem jI5:aK kd5 252 8 jI4 [.tmp 2]:=⟨Tryz.f252,_,[],Tryz.func252,rfl,rfl,rfl,by kernel_rfl,by kernel_rfl,by kernel_rfl⟩
def zY7:cF:=[(0,[([0,1,2,3,5,6,7,4,8,9,10],[(4,[5,6,7])])])]
noncomputable def zz1:aC:=aP zY7 (aX Tryz.f253)
theorem jI6:aK kd5 253 15 zz1 []:=⟨Tryz.f253,_,zY7,Tryz.func253,rfl,rfl,rfl,by kernel_rfl,by kernel_rfl,by kernel_rfl⟩
noncomputable def zz2:aC:=aP [] (aX Tryz.f254)
theorem jI7:aK kd5 254 122 zz2 [.tmp 4]:=⟨Tryz.f254,_,[],Tryz.func254,rfl,rfl,rfl,by kernel_rfl,by kernel_rfl,by kernel_rfl⟩
noncomputable def xX:aC:=aP [] (aX Tryz.f255)
theorem zY8:aK kd5 255 18 xX [.tmp 4]:=⟨Tryz.f255,_,[],Tryz.func255,rfl,rfl,rfl,by kernel_rfl,by kernel_rfl,by kernel_rfl⟩
def zY9:cF:=[(1,[([0,1,2,3,5,6,7,8,10,11,12,13,14,15,17,18,19,20,4,9,16,21,22,23,24],[(4,[5,6,7,8,10,11,12,13,14,15,17,18,19,20]),
 (9,[10,11,12,13,14,15,17,18,19,20]),(16,[17,18,19,20])])])]
noncomputable def zz3:aC:=aP zY9 (aX Tryz.f256)
theorem jI8:aK kd5 256 29 zz3 [.tmp 4]:=⟨Tryz.f256,_,zY9,Tryz.func256,rfl,rfl,rfl,by kernel_rfl,by kernel_rfl,by kernel_rfl⟩
noncomputable def zz4:aC:=aP [] (aX Tryz.f257)
theorem jI9:aK kd5 257 32 zz4 [.tmp 6]:=⟨Tryz.f257,_,[],Tryz.func257,rfl,rfl,rfl,by kernel_rfl,by kernel_rfl,by kernel_rfl⟩
noncomputable def zz5:aC:=aP [] (aX Tryz.f258)
theorem jJ0:aK kd5 258 60 zz5 [.cell 4 3]:=⟨Tryz.f258,_,[],Tryz.func258,rfl,rfl,rfl,by kernel_rfl,by kernel_rfl,by kernel_rfl⟩
noncomputable def zz6:aC:=aP [] (aX Tryz.f283)
theorem jJ1:aK kd5 283 17 zz6 [.tmp 4]:=⟨Tryz.f283,_,[],Tryz.func283,rfl,rfl,rfl,by kernel_rfl,by kernel_rfl,by kernel_rfl⟩
noncomputable def zz7:aC:=aP [] (aX Tryz.f284)
theorem jJ2:aK kd5 284 18 zz7 [.tmp 2]:=⟨Tryz.f284,_,[],Tryz.func284,rfl,rfl,rfl,by kernel_rfl,by kernel_rfl,by kernel_rfl⟩
noncomputable def zz8:aC:=aP [] (aX Tryz.f285)
theorem jJ3:aK kd5 285 20 zz8 [.tmp 4]:=⟨Tryz.f285,_,[],Tryz.func285,rfl,rfl,rfl,by kernel_rfl,by kernel_rfl,by kernel_rfl⟩
noncomputable def zz9:aC:=aP [] (aX Tryz.f286)
theorem jJ4:aK kd5 286 39 zz9 [.tmp 6]:=⟨Tryz.f286,_,[],Tryz.func286,rfl,rfl,rfl,by kernel_rfl,by kernel_rfl,by kernel_rfl⟩
noncomputable def zA0:aC:=aP [] (aX Tryz.f287)
theorem jJ5:aK kd5 287 4 zA0 [.tmp 2]:=⟨Tryz.f287,_,[],Tryz.func287,rfl,rfl,rfl,by kernel_rfl,by kernel_rfl,by kernel_rfl⟩
noncomputable def zA1:aC:=aP [] (aX Tryz.f305)
theorem jJ6:aK kd5 305 20 zA1 []:=⟨Tryz.f305,_,[],Tryz.func305,rfl,rfl,rfl,by kernel_rfl,by kernel_rfl,by kernel_rfl⟩
def zZ0:cF:=[(2,[([0,1,2,3,4,5,6,7,8,9,10,11],[(7,[2,3,4])])])]
noncomputable def zA2:aC:=aP zZ0 (aX Tryz.f306)
theorem jJ7:aK kd5 306 32 zA2 []:=⟨Tryz.f306,_,zZ0,Tryz.func306,rfl,rfl,rfl,by kernel_rfl,by kernel_rfl,by kernel_rfl⟩
noncomputable def zA3:aC:=aP [] (aX Tryz.f307)
open And renaming intro→ai
def oS0:=Bx.mk <| ai @jw5 (ai bt3 (ai jw6 (ai jw7 (ai jw8 (ai jw9 (ai jx0 (ai jx1 (ai jx2 (ai jx3 (ai zT3 (ai jx4 (ai jx5 (ai jx6 (ai jy2 (ai jy3 (ai jy4 (ai jy5 (ai jy6 (ai jy7 (ai jy8 (ai jy9 (ai jz0 (ai jz1 (ai (fun {T h K x}=>cZ (T:=T) (h:=h) (K:=K) (x:=x) ti3) (ai (fun {T h K x}=>cZ (T:=T) (h:=h) (K:=K) (x:=x) ti9) (ai (fun {T h K x}=>cZ (T:=T) (h:=h) (K:=K) (x:=x) qM) (ai (fun {T h K x}=>cZ (T:=T) (h:=h) (K:=K) (x:=x) lH) (ai (fun {T h K x}=>cZ (T:=T) (h:=h) (K:=K) (x:=x) zq1) (ai (fun {T h K x}=>cZ (T:=T) (h:=h) (K:=K) (x:=x) sF) (ai (fun {T h K x}=>cZ (T:=T) (h:=h) (K:=K) (x:=x) sG) (ai (fun {T h K x}=>cZ (T:=T) (h:=h) (K:=K) (x:=x) oA) (ai (fun {T h K x}=>cZ (T:=T) (h:=h) (K:=K) (x:=x) sH) (ai (fun {T h K x}=>cZ (T:=T) (h:=h) (K:=K) (x:=x) sI) (ai (fun {T h K x}=>cZ (T:=T) (h:=h) (K:=K) (x:=x) mI) (ai (fun {T h K x}=>cZ (T:=T) (h:=h) (K:=K) (x:=x) uK) (ai (fun {T h K x}=>cZ (T:=T) (h:=h) (K:=K) (x:=x) mJ) (ai (fun {T h K x}=>cZ (T:=T) (h:=h) (K:=K) (x:=x) lI) (ai (fun {T h K x}=>cZ (T:=T) (h:=h) (K:=K) (x:=x) sJ) (fun {T h K x}=>cZ (T:=T) (h:=h) (K:=K) (x:=x) sK)))))))))))))))))))))))))))))))))))))))
def oS1:=Bx.mk <| ai (fun {T h K x}=>cZ (T:=T) (h:=h) (K:=K) (x:=x) sL) (ai (fun {T h K x}=>cZ (T:=T) (h:=h) (K:=K) (x:=x) mK) (ai (fun {T h K x}=>cZ (T:=T) (h:=h) (K:=K) (x:=x) xH) (ai (fun {T h K x}=>cZ (T:=T) (h:=h) (K:=K) (x:=x) sM) (ai (fun {T h K x}=>cZ (T:=T) (h:=h) (K:=K) (x:=x) sN) (ai (fun {T h K x}=>cZ (T:=T) (h:=h) (K:=K) (x:=x) jz2) (ai (fun {T h K x}=>cZ (T:=T) (h:=h) (K:=K) (x:=x) jz3) (ai (fun {T h K x}=>cZ (T:=T) (h:=h) (K:=K) (x:=x) jz4) (ai (fun {T h K x}=>cZ (T:=T) (h:=h) (K:=K) (x:=x) jz5) (ai (fun {T h K x}=>cZ (T:=T) (h:=h) (K:=K) (x:=x) jz6) (ai (fun {T h K x}=>cZ (T:=T) (h:=h) (K:=K) (x:=x) zq2) (ai (fun {T h K x}=>cZ (T:=T) (h:=h) (K:=K) (x:=x) zT4) (ai (fun {T h K x}=>cZ (T:=T) (h:=h) (K:=K) (x:=x) sO) (ai (fun {T h K x}=>cZ (T:=T) (h:=h) (K:=K) (x:=x) jz7) (ai (fun {T h K x}=>cZ (T:=T) (h:=h) (K:=K) (x:=x) mL) (ai (fun {T h K x}=>cZ (T:=T) (h:=h) (K:=K) (x:=x) jz8) (ai (fun {T h K x}=>cZ (T:=T) (h:=h) (K:=K) (x:=x) zU0) (ai (fun {T h K op yt x y}=>wT (T:=T) (h:=h) (K:=K) (op:=op) (yt:=yt) (x:=x) (y:=y) ti3) (ai (fun {T h K op yt x y}=>wT (T:=T) (h:=h) (K:=K) (op:=op) (yt:=yt) (x:=x) (y:=y) ti4) (ai (fun {T h K op yt x y}=>wT (T:=T) (h:=h) (K:=K) (op:=op) (yt:=yt) (x:=x) (y:=y) ti5) (ai (fun {T h K op yt x y}=>wT (T:=T) (h:=h) (K:=K) (op:=op) (yt:=yt) (x:=x) (y:=y) ti9) (ai (fun {T h K}=>mD (T:=T) (h:=h) (K:=K) ti3) (ai (fun {T h K}=>mD (T:=T) (h:=h) (K:=K) lH) (ai (fun {T h K}=>mD (T:=T) (h:=h) (K:=K) mI) (ai (fun {T h K}=>mD (T:=T) (h:=h) (K:=K) lI) (ai (fun {T h K}=>mD (T:=T) (h:=h) (K:=K) sJ) (ai (fun {T h K}=>mD (T:=T) (h:=h) (K:=K) sK) (ai (fun {T h K}=>mD (T:=T) (h:=h) (K:=K) sL) (ai (fun {T h K}=>mD (T:=T) (h:=h) (K:=K) mK) (ai (fun {T h K}=>mD (T:=T) (h:=h) (K:=K) xH) (ai (fun {T h K}=>mD (T:=T) (h:=h) (K:=K) sM) (ai (fun {T h K}=>mD (T:=T) (h:=h) (K:=K) sN) (ai (fun {T h K}=>mD (T:=T) (h:=h) (K:=K) zq2) (ai (fun {T h K p x}=>eJ (T:=T) (h:=h) (K:=K) (p:=p) (x:=x) ti3) (ai (fun {T h K p x}=>eJ (T:=T) (h:=h) (K:=K) (p:=p) (x:=x) qM) (ai (fun {T h K p x}=>eJ (T:=T) (h:=h) (K:=K) (p:=p) (x:=x) lH) (ai (fun {T h K p x}=>eJ (T:=T) (h:=h) (K:=K) (p:=p) (x:=x) sF) (ai (fun {T h K p x}=>eJ (T:=T) (h:=h) (K:=K) (p:=p) (x:=x) sG) (ai (fun {T h K p x}=>eJ (T:=T) (h:=h) (K:=K) (p:=p) (x:=x) oA) (fun {T h K p x}=>eJ (T:=T) (h:=h) (K:=K) (p:=p) (x:=x) sH)))))))))))))))))))))))))))))))))))))))
def oS2:=Bx.mk <| ai (fun {T h K p x}=>eJ (T:=T) (h:=h) (K:=K) (p:=p) (x:=x) sI) (ai (fun {T h K p x}=>eJ (T:=T) (h:=h) (K:=K) (p:=p) (x:=x) mI) (ai (fun {T h K p x}=>eJ (T:=T) (h:=h) (K:=K) (p:=p) (x:=x) uK) (ai (fun {T h K p x}=>eJ (T:=T) (h:=h) (K:=K) (p:=p) (x:=x) mJ) (ai (fun {T h K p x}=>eJ (T:=T) (h:=h) (K:=K) (p:=p) (x:=x) lI) (ai (fun {T h K p x}=>eJ (T:=T) (h:=h) (K:=K) (p:=p) (x:=x) sJ) (ai (fun {T h K p x}=>eJ (T:=T) (h:=h) (K:=K) (p:=p) (x:=x) sK) (ai (fun {T h K p x}=>eJ (T:=T) (h:=h) (K:=K) (p:=p) (x:=x) sL) (ai (fun {T h K p x}=>eJ (T:=T) (h:=h) (K:=K) (p:=p) (x:=x) mK) (ai (fun {T h K p x}=>eJ (T:=T) (h:=h) (K:=K) (p:=p) (x:=x) xH) (ai (fun {T h K p x}=>eJ (T:=T) (h:=h) (K:=K) (p:=p) (x:=x) sM) (ai (fun {T h K p x}=>eJ (T:=T) (h:=h) (K:=K) (p:=p) (x:=x) sN) (ai (fun {T h K p x}=>eJ (T:=T) (h:=h) (K:=K) (p:=p) (x:=x) zq2) (ai (fun {T h K p x}=>eJ (T:=T) (h:=h) (K:=K) (p:=p) (x:=x) zT4) (ai (fun {T h K p x}=>eJ (T:=T) (h:=h) (K:=K) (p:=p) (x:=x) sO) (ai (fun {T h K p x}=>eJ (T:=T) (h:=h) (K:=K) (p:=p) (x:=x) mL) (ai (fun {T h K x f}=>iW (T:=T) (h:=h) (K:=K) (x:=x) (f:=f) lH rfl) (ai (fun {T h K x f}=>iW (T:=T) (h:=h) (K:=K) (x:=x) (f:=f) zq1 rfl) (ai (fun {T h K x f}=>iW (T:=T) (h:=h) (K:=K) (x:=x) (f:=f) mI rfl) (ai (fun {T h K x f}=>iW (T:=T) (h:=h) (K:=K) (x:=x) (f:=f) lI rfl) (ai (fun {T h K x f}=>iW (T:=T) (h:=h) (K:=K) (x:=x) (f:=f) sJ rfl) (ai (fun {T h K x f}=>iW (T:=T) (h:=h) (K:=K) (x:=x) (f:=f) sK rfl) (ai (fun {T h K x f}=>iW (T:=T) (h:=h) (K:=K) (x:=x) (f:=f) sL rfl) (ai (fun {T h K x f}=>iW (T:=T) (h:=h) (K:=K) (x:=x) (f:=f) mK rfl) (ai (fun {T h K x f}=>iW (T:=T) (h:=h) (K:=K) (x:=x) (f:=f) xH rfl) (ai (fun {T h K x f}=>iW (T:=T) (h:=h) (K:=K) (x:=x) (f:=f) sM rfl) (ai (fun {T h K x f}=>iW (T:=T) (h:=h) (K:=K) (x:=x) (f:=f) sN rfl) (ai (fun {T h K x f}=>iW (T:=T) (h:=h) (K:=K) (x:=x) (f:=f) zT5 rfl) (ai (fun {T h K x f}=>iW (T:=T) (h:=h) (K:=K) (x:=x) (f:=f) zT6 rfl) (ai (fun {T h K x f}=>iW (T:=T) (h:=h) (K:=K) (x:=x) (f:=f) zT7 rfl) (ai (fun {T h K x f}=>iW (T:=T) (h:=h) (K:=K) (x:=x) (f:=f) zT8 rfl) (ai (fun {T h K x f}=>iW (T:=T) (h:=h) (K:=K) (x:=x) (f:=f) zT9 rfl) (ai (fun {T h K x f}=>iW (T:=T) (h:=h) (K:=K) (x:=x) (f:=f) zU1 rfl) (ai (fun {T h K x f}=>iW (T:=T) (h:=h) (K:=K) (x:=x) (f:=f) zU2 rfl) (ai (fun {T h K ps}=>jG (T:=T) (h:=h) (K:=K) (ps:=ps) zq1) (ai (fun {T h K ps}=>jG (T:=T) (h:=h) (K:=K) (ps:=ps) mI) (ai (fun {T h K ps}=>jG (T:=T) (h:=h) (K:=K) (ps:=ps) lI) (ai (fun {T h K ps}=>jG (T:=T) (h:=h) (K:=K) (ps:=ps) sJ) (ai (fun {T h K ps}=>jG (T:=T) (h:=h) (K:=K) (ps:=ps) sK) (fun {T h K ps}=>jG (T:=T) (h:=h) (K:=K) (ps:=ps) sL)))))))))))))))))))))))))))))))))))))))
def oS3:=Bx.mk <| ai (fun {T h K ps}=>jG (T:=T) (h:=h) (K:=K) (ps:=ps) mK) (ai (fun {T h K ps}=>jG (T:=T) (h:=h) (K:=K) (ps:=ps) xH) (ai (fun {T h K ps}=>jG (T:=T) (h:=h) (K:=K) (ps:=ps) sM) (ai (fun {T h K ps}=>jG (T:=T) (h:=h) (K:=K) (ps:=ps) sN) (ai (fun {T h K ps}=>jG (T:=T) (h:=h) (K:=K) (ps:=ps) zT5) (ai (fun {T h K ps}=>jG (T:=T) (h:=h) (K:=K) (ps:=ps) zT6) (ai (fun {T h K ps}=>jG (T:=T) (h:=h) (K:=K) (ps:=ps) zT7) (ai (fun {T h K ps}=>jG (T:=T) (h:=h) (K:=K) (ps:=ps) zT8) (ai (fun {T h K ps}=>jG (T:=T) (h:=h) (K:=K) (ps:=ps) zT9) (ai (fun {T h K ps}=>jG (T:=T) (h:=h) (K:=K) (ps:=ps) zU1) (ai (fun {T h K ps}=>jG (T:=T) (h:=h) (K:=K) (ps:=ps) zU2) (ai (fun {T h K x}=>kG (T:=T) (h:=h) (K:=K) (x:=x) ti9) (ai (fun {T h K x}=>kG (T:=T) (h:=h) (K:=K) (x:=x) qM) (ai (fun {T h K x}=>kG (T:=T) (h:=h) (K:=K) (x:=x) sF) (ai (fun {T h K x}=>kG (T:=T) (h:=h) (K:=K) (x:=x) sG) (ai (fun {T h K x}=>kG (T:=T) (h:=h) (K:=K) (x:=x) oA) (ai (fun {T h K x}=>kG (T:=T) (h:=h) (K:=K) (x:=x) sH) (ai (fun {T h K x}=>kG (T:=T) (h:=h) (K:=K) (x:=x) sI) (ai (fun {T h K x}=>kG (T:=T) (h:=h) (K:=K) (x:=x) uK) (ai (fun {T h K x}=>kG (T:=T) (h:=h) (K:=K) (x:=x) mJ) (ai (fun {T h K x}=>kG (T:=T) (h:=h) (K:=K) (x:=x) sO) (ai (fun {T h K x}=>kG (T:=T) (h:=h) (K:=K) (x:=x) mL) (ai (fun {T h K x}=>kG (T:=T) (h:=h) (K:=K) (x:=x) zq3) (ai (fun {T h K x ix}=>gO (T:=T) (h:=h) (K:=K) (x:=x) (ix:=ix) qM rfl) (ai (fun {T h K x ix}=>gO (T:=T) (h:=h) (K:=K) (x:=x) (ix:=ix) sF rfl) (ai (fun {T h K x ix}=>gO (T:=T) (h:=h) (K:=K) (x:=x) (ix:=ix) sG rfl) (ai (fun {T h K x ix}=>gO (T:=T) (h:=h) (K:=K) (x:=x) (ix:=ix) oA rfl) (ai (fun {T h K x ix}=>gO (T:=T) (h:=h) (K:=K) (x:=x) (ix:=ix) sH rfl) (ai (fun {T h K x ix}=>gO (T:=T) (h:=h) (K:=K) (x:=x) (ix:=ix) sI rfl) (ai (fun {T h K x ix}=>gO (T:=T) (h:=h) (K:=K) (x:=x) (ix:=ix) uK rfl) (ai (fun {T h K x ix}=>gO (T:=T) (h:=h) (K:=K) (x:=x) (ix:=ix) mJ rfl) (ai (fun {T h K x ix}=>gO (T:=T) (h:=h) (K:=K) (x:=x) (ix:=ix) sO rfl) (ai (fun {T h K x ix}=>gO (T:=T) (h:=h) (K:=K) (x:=x) (ix:=ix) mL rfl) (ai (fun {T h K x ix}=>gO (T:=T) (h:=h) (K:=K) (x:=x) (ix:=ix) zq3 rfl) (ai (fun {T h K n ps}=>mE (T:=T) (h:=h) (K:=K) (n:=n) (ps:=ps) qM rfl) (ai (fun {T h K n ps}=>mE (T:=T) (h:=h) (K:=K) (n:=n) (ps:=ps) sF rfl) (ai (fun {T h K n ps}=>mE (T:=T) (h:=h) (K:=K) (n:=n) (ps:=ps) sG rfl) (ai (fun {T h K n ps}=>mE (T:=T) (h:=h) (K:=K) (n:=n) (ps:=ps) oA rfl) (ai (fun {T h K n ps}=>mE (T:=T) (h:=h) (K:=K) (n:=n) (ps:=ps) sH rfl) (fun {T h K n ps}=>mE (T:=T) (h:=h) (K:=K) (n:=n) (ps:=ps) sI rfl)))))))))))))))))))))))))))))))))))))))
def oS4:=Bx.mk <| ai (fun {T h K n ps}=>mE (T:=T) (h:=h) (K:=K) (n:=n) (ps:=ps) uK rfl) (ai (fun {T h K n ps}=>mE (T:=T) (h:=h) (K:=K) (n:=n) (ps:=ps) mJ rfl) (ai (fun {T h K n ps}=>mE (T:=T) (h:=h) (K:=K) (n:=n) (ps:=ps) sO rfl) (ai (fun {T h K n ps}=>mE (T:=T) (h:=h) (K:=K) (n:=n) (ps:=ps) mL rfl) (ai (fun {T h K n ps}=>mE (T:=T) (h:=h) (K:=K) (n:=n) (ps:=ps) zq3 rfl) (ai (fun {T h K s x}=>nA (T:=T) (h:=h) (K:=K) (s:=s) (x:=x) qM rfl) (ai (fun {T h K s x}=>nA (T:=T) (h:=h) (K:=K) (s:=s) (x:=x) sF rfl) (ai (fun {T h K s x}=>nA (T:=T) (h:=h) (K:=K) (s:=s) (x:=x) sG rfl) (ai (fun {T h K s x}=>nA (T:=T) (h:=h) (K:=K) (s:=s) (x:=x) oA rfl) (ai (fun {T h K s x}=>nA (T:=T) (h:=h) (K:=K) (s:=s) (x:=x) sH rfl) (ai (fun {T h K s x}=>nA (T:=T) (h:=h) (K:=K) (s:=s) (x:=x) sI rfl) (ai (fun {T h K s x}=>nA (T:=T) (h:=h) (K:=K) (s:=s) (x:=x) uK rfl) (ai (fun {T h K s x}=>nA (T:=T) (h:=h) (K:=K) (s:=s) (x:=x) mJ rfl) (ai (fun {T h K s x}=>nA (T:=T) (h:=h) (K:=K) (s:=s) (x:=x) sO rfl) (ai (fun {T h K s x}=>nA (T:=T) (h:=h) (K:=K) (s:=s) (x:=x) mL rfl) (ai (fun {T h K x f}=>jt6 (T:=T) (h:=h) (K:=K) (x:=x) (f:=f) lI) (ai (fun {T h K x lo hi}=>zn6 (T:=T) (h:=h) (K:=K) (x:=x) (lo:=lo) (hi:=hi) mJ) (ai (fun {T h K x lo hi}=>zn6 (T:=T) (h:=h) (K:=K) (x:=x) (lo:=lo) (hi:=hi) sO) (ai (fun {T h K x lo hi}=>zn6 (T:=T) (h:=h) (K:=K) (x:=x) (lo:=lo) (hi:=hi) mL) (ai (fun {T h K yt x}=>zn7 (T:=T) (h:=h) (K:=K) (yt:=yt) (x:=x) qM rfl) (ai (fun {T h K yt x}=>zn7 (T:=T) (h:=h) (K:=K) (yt:=yt) (x:=x) mJ rfl) (ai (fun {T h K x}=>zQ9 (T:=T) (h:=h) (K:=K) (x:=x) ti3 zq4 rfl) (ai (fun {T h K x}=>zQ9 (T:=T) (h:=h) (K:=K) (x:=x) zq4 ti3 rfl) (fun {T h K op yt x y}=>wT (T:=T) (h:=h) (K:=K) (op:=op) (yt:=yt) (x:=x) (y:=y) zq4)))))))))))))))))))))))
def oS:=Bx.mk <| ai bV.d <| ai oS0.d (ai oS1.d (ai oS2.d (ai oS3.d oS4.d)))
def lJ (tS tE:TypeId):aC:=(aC.ops [VOp.mk (some 10) (.assign (.const (.int .i64 0))) none]).seq (aC.block 0 (((aC.ops [VOp.mk (some 11) (.move (.tmp 10)) none,VOp.mk (some 12) (.move (.tmp
 3)) none,VOp.mk (some 13) (.binOp .lss 3 (.tmp 11) (.tmp 12) 3) none]).seq (aC.cond (.tmp 13) aC.skip (aC.exit 0))).seq ((aC.block 1 (aC.ops [VOp.mk (some 16)
 (.move (.tmp 0)) none,VOp.mk (some 17) (.move (.tmp 1)) none,VOp.mk (some 18) (.move (.tmp 10)) none,VOp.mk (some 19) (.binOp .add 3 (.tmp 17) (.tmp 18) 3) none,VOp.mk
 (some 20) (.move (.tmp 0)) none,VOp.mk (some 21) (.move (.tmp 2)) none,VOp.mk (some 22) (.move (.tmp 10)) none,VOp.mk (some 23) (.binOp .add 3 (.tmp 21) (.tmp 22) 3) none,
 VOp.mk (some 24) (.move (.tmp 0)) none,VOp.mk (some 25) (.move (.tmp 2)) none,VOp.mk (some 26) (.move (.tmp 10)) none,VOp.mk (some 27) (.binOp .add 3 (.tmp 25) (.tmp 26) 3)
 none,VOp.mk (some 28) (.indexAddr tS (.tmp 24) (.tmp 27)) none,VOp.mk (some 29) (.load tE (.tmp 28)) none,VOp.mk (some 30) (.move (.tmp 0)) none,VOp.mk (some 31) (.move
 (.tmp 1)) none,VOp.mk (some 32) (.move (.tmp 10)) none,VOp.mk (some 33) (.binOp .add 3 (.tmp 31) (.tmp 32) 3) none,VOp.mk (some 34) (.indexAddr tS (.tmp 30) (.tmp 33))
 none,VOp.mk (some 35) (.load tE (.tmp 34)) none,VOp.mk (some 36) (.indexAddr tS (.tmp 16) (.tmp 19)) none,VOp.mk none (.store tE (.tmp 36) (.tmp 29)) none,VOp.mk (some 37)
 (.indexAddr tS (.tmp 20) (.tmp 23)) none,VOp.mk none (.store tE (.tmp 37) (.tmp 35)) none])).seq (aC.ops [VOp.mk (some 14) (.move (.tmp 10)) none,VOp.mk (some 15) (.binOp
 .add 3 (.tmp 14) (.const (.int .i64 1)) 3) none,VOp.mk (some 10) (.assign (.tmp 15)) none]))).loop)
def mM (tS tF:TypeId) (fR:FuncId):aC:=(aC.ops [VOp.mk (some 12) (.move (.tmp 2)) none,VOp.mk (some 13) (.move (.tmp 1)) none,VOp.mk (some 14) (.binOp .sub 3 (.tmp 12) (.tmp 13) 3) none,VOp.mk (some 10)
 (.assign (.tmp 14)) none]).seq ((aC.ops [VOp.mk (some 15) (.move (.tmp 3)) none,VOp.mk (some 16) (.move (.tmp 2)) none,VOp.mk (some 17) (.binOp .sub 3 (.tmp 15) (.tmp 16)
 3) none,VOp.mk (some 11) (.assign (.tmp 17)) none]).seq ((aC.block 0 (((aC.ops [VOp.mk (some 18) (.move (.tmp 10)) none,VOp.mk (some 19) (.move (.tmp 11)) none,VOp.mk
 (some 20) (.binOp .neq 3 (.tmp 18) (.tmp 19) 3) none]).seq (aC.cond (.tmp 20) aC.skip (aC.exit 0))).seq (aC.block 1 ((aC.ops [VOp.mk (some 21) (.move (.tmp 10))
 none,VOp.mk (some 22) (.move (.tmp 11)) none,VOp.mk (some 23) (.binOp .gtr 3 (.tmp 21) (.tmp 22) 3) none]).seq (aC.cond (.tmp 23) ((aC.ops [VOp.mk (some 24) (.move
 (.tmp 0)) none,VOp.mk (some 25) (.move (.tmp 2)) none,VOp.mk (some 26) (.move (.tmp 10)) none,VOp.mk (some 27) (.binOp .sub 3 (.tmp 25) (.tmp 26) 3) none,VOp.mk (some 28)
 (.move (.tmp 2)) none,VOp.mk (some 29) (.move (.tmp 11)) none,VOp.mk (some 30) (.move (.tmp 4)) none,VOp.mk (some 31) (.call (.mk (.value (.func fR)) #[.tmp 24,.tmp 27,
 .tmp 28,.tmp 29,.tmp 30] #[tS,3,3,3,tF])) none]).seq (aC.ops [VOp.mk (some 32) (.move (.tmp 10)) none,VOp.mk (some 33) (.move (.tmp 11)) none,VOp.mk (some 34)
 (.binOp .sub 3 (.tmp 32) (.tmp 33) 3) none,VOp.mk (some 10) (.assign (.tmp 34)) none])) ((aC.ops [VOp.mk (some 35) (.move (.tmp 0)) none,VOp.mk (some 36) (.move (.tmp 2))
 none,VOp.mk (some 37) (.move (.tmp 10)) none,VOp.mk (some 38) (.binOp .sub 3 (.tmp 36) (.tmp 37) 3) none,VOp.mk (some 39) (.move (.tmp 2)) none,VOp.mk (some 40) (.move
 (.tmp 11)) none,VOp.mk (some 41) (.binOp .add 3 (.tmp 39) (.tmp 40) 3) none,VOp.mk (some 42) (.move (.tmp 10)) none,VOp.mk (some 43) (.binOp .sub 3 (.tmp 41) (.tmp 42) 3)
 none,VOp.mk (some 44) (.move (.tmp 10)) none,VOp.mk (some 45) (.move (.tmp 4)) none,VOp.mk (some 46) (.call (.mk (.value (.func fR)) #[.tmp 35,.tmp 38,.tmp 43,.tmp 44,
 .tmp 45] #[tS,3,3,3,tF])) none]).seq (aC.ops [VOp.mk (some 47) (.move (.tmp 11)) none,VOp.mk (some 48) (.move (.tmp 10)) none,VOp.mk (some 49) (.binOp .sub 3 (.tmp
 47) (.tmp 48) 3) none,VOp.mk (some 11) (.assign (.tmp 49)) none])))))).loop).seq (aC.ops [VOp.mk (some 50) (.move (.tmp 0)) none,VOp.mk (some 51) (.move (.tmp 2)) none,
 VOp.mk (some 52) (.move (.tmp 10)) none,VOp.mk (some 53) (.binOp .sub 3 (.tmp 51) (.tmp 52) 3) none,VOp.mk (some 54) (.move (.tmp 2)) none,VOp.mk (some 55) (.move (.tmp
 10)) none,VOp.mk (some 56) (.move (.tmp 4)) none,VOp.mk (some 57) (.call (.mk (.value (.func fR)) #[.tmp 50,.tmp 53,.tmp 54,.tmp 55,.tmp 56] #[tS,3,3,3,tF]))
 none])))
def nD (tS tE:TypeId):aC:=(aC.ops [VOp.mk (some 10) (.move (.tmp 1)) none,VOp.mk (some 11) (.binOp .add 3 (.tmp 10) (.const (.int .i64 1)) 3) none,VOp.mk (some 8) (.assign (.tmp 11)) none]).seq
 (aC.block 0 (((aC.ops [VOp.mk (some 12) (.move (.tmp 8)) none,VOp.mk (some 13) (.move (.tmp 2)) none,VOp.mk (some 14) (.binOp .lss 3 (.tmp 12) (.tmp 13) 3) none]).seq
 (aC.cond (.tmp 14) aC.skip (aC.exit 0))).seq ((aC.block 1 ((aC.ops [VOp.mk (some 17) (.move (.tmp 8)) none,VOp.mk (some 9) (.assign (.tmp 17)) none]).seq
 (aC.block 2 (((aC.ops [VOp.mk (some 18) (.move (.tmp 9)) none,VOp.mk (some 19) (.move (.tmp 1)) none,VOp.mk (some 20) (.binOp .gtr 3 (.tmp 18) (.tmp 19) 3) none,
 VOp.mk (some 21) (.move (.tmp 20)) none,VOp.mk (some 22) (.move (.tmp 3)) (some (some 21,true)),VOp.mk (some 23) (.move (.tmp 0)) (some (some 21,true)),VOp.mk (some 24)
 (.move (.tmp 9)) (some (some 21,true)),VOp.mk (some 25) (.indexAddr tS (.tmp 23) (.tmp 24)) (some (some 21,true)),VOp.mk (some 26) (.load tE (.tmp 25)) (some (some 21,
 true)),VOp.mk (some 27) (.move (.tmp 0)) (some (some 21,true)),VOp.mk (some 28) (.move (.tmp 9)) (some (some 21,true)),VOp.mk (some 29) (.binOp .sub 3 (.tmp 28) (.const
 (.int .i64 1)) 3) (some (some 21,true)),VOp.mk (some 30) (.indexAddr tS (.tmp 27) (.tmp 29)) (some (some 21,true)),VOp.mk (some 31) (.load tE (.tmp 30)) (some (some 21,
 true)),VOp.mk (some 32) (.call (.mk (.value (.tmp 22)) #[.tmp 26,.tmp 31] #[tE,tE])) (some (some 21,true)),VOp.mk (some 33) (.binOp .lss 3 (.tmp 32) (.const (.int .i64
 0)) 3) (some (some 21,true)),VOp.mk (some 34) (.pick (.tmp 21) (.tmp 33) (.const (.bool false))) none]).seq (aC.cond (.tmp 34) aC.skip (aC.exit 2))).seq
 ((aC.block 3 (aC.ops [VOp.mk (some 37) (.move (.tmp 0)) none,VOp.mk (some 38) (.move (.tmp 9)) none,VOp.mk (some 39) (.move (.tmp 0)) none,VOp.mk (some 40) (.move
 (.tmp 9)) none,VOp.mk (some 41) (.binOp .sub 3 (.tmp 40) (.const (.int .i64 1)) 3) none,VOp.mk (some 42) (.move (.tmp 0)) none,VOp.mk (some 43) (.move (.tmp 9)) none,
 VOp.mk (some 44) (.binOp .sub 3 (.tmp 43) (.const (.int .i64 1)) 3) none,VOp.mk (some 45) (.indexAddr tS (.tmp 42) (.tmp 44)) none,VOp.mk (some 46) (.load tE (.tmp 45))
 none,VOp.mk (some 47) (.move (.tmp 0)) none,VOp.mk (some 48) (.move (.tmp 9)) none,VOp.mk (some 49) (.indexAddr tS (.tmp 47) (.tmp 48)) none,VOp.mk (some 50) (.load tE
 (.tmp 49)) none,VOp.mk (some 51) (.indexAddr tS (.tmp 37) (.tmp 38)) none,VOp.mk none (.store tE (.tmp 51) (.tmp 46)) none,VOp.mk (some 52) (.indexAddr tS (.tmp 39) (.tmp
 41)) none,VOp.mk none (.store tE (.tmp 52) (.tmp 50)) none])).seq (aC.ops [VOp.mk (some 35) (.move (.tmp 9)) none,VOp.mk (some 36) (.binOp .sub 3 (.tmp 35) (.const (.int
 .i64 1)) 3) none,VOp.mk (some 9) (.assign (.tmp 36)) none]))).loop))).seq (aC.ops [VOp.mk (some 15) (.move (.tmp 8)) none,VOp.mk (some 16) (.binOp .add 3 (.tmp 15)
 (.const (.int .i64 1)) 3) none,VOp.mk (some 8) (.assign (.tmp 16)) none]))).loop)
def zA4 (tS tF:TypeId) (fO:FuncId):aC:=((aC.ops [VOp.mk (some 178) (.move (.tmp 20)) none,VOp.mk (some 179) (.move (.tmp 2)) none,VOp.mk (some 180) (.binOp .lss 3 (.tmp 178) (.tmp 179) 3) none,VOp.mk (some
 181) (.move (.tmp 180)) none,VOp.mk (some 182) (.move (.tmp 2)) (some (some 181,true)),VOp.mk (some 183) (.move (.tmp 24)) (some (some 181,true)),VOp.mk (some 184)
 (.binOp .lss 3 (.tmp 182) (.tmp 183) 3) (some (some 181,true)),VOp.mk (some 185) (.pick (.tmp 181) (.tmp 184) (.const (.bool false))) none]).seq (aC.cond (.tmp 185)
 (aC.ops [VOp.mk (some 186) (.move (.tmp 0)) none,VOp.mk (some 187) (.move (.tmp 20)) none,VOp.mk (some 188) (.move (.tmp 2)) none,VOp.mk (some 189) (.move (.tmp 24))
 none,VOp.mk (some 190) (.move (.tmp 4)) none,VOp.mk (some 191) (.call (.mk (.value (.func fO)) #[.tmp 186,.tmp 187,.tmp 188,.tmp 189,.tmp 190] #[tS,3,3,3,tF]))
 none]) aC.skip))
def zA5 (tS tF:TypeId) (fM:FuncId):aC:=((aC.ops [VOp.mk (some 192) (.move (.tmp 1)) none,VOp.mk (some 193) (.move (.tmp 20)) none,VOp.mk (some 194) (.binOp .lss 3 (.tmp 192) (.tmp 193) 3) none,VOp.mk (some
 195) (.move (.tmp 194)) none,VOp.mk (some 196) (.move (.tmp 20)) (some (some 195,true)),VOp.mk (some 197) (.move (.tmp 18)) (some (some 195,true)),VOp.mk (some 198)
 (.binOp .lss 3 (.tmp 196) (.tmp 197) 3) (some (some 195,true)),VOp.mk (some 199) (.pick (.tmp 195) (.tmp 198) (.const (.bool false))) none]).seq (aC.cond (.tmp 199)
 (aC.ops [VOp.mk (some 200) (.move (.tmp 0)) none,VOp.mk (some 201) (.move (.tmp 1)) none,VOp.mk (some 202) (.move (.tmp 20)) none,VOp.mk (some 203) (.move (.tmp 18))
 none,VOp.mk (some 204) (.move (.tmp 4)) none,VOp.mk (some 205) (.call (.mk (.value (.func fM)) #[.tmp 200,.tmp 201,.tmp 202,.tmp 203,.tmp 204] #[tS,3,3,3,tF]))
 none]) aC.skip))
def zA6 (tS tF:TypeId) (fM:FuncId):aC:=((aC.ops [VOp.mk (some 206) (.move (.tmp 18)) none,VOp.mk (some 207) (.move (.tmp 24)) none,VOp.mk (some 208) (.binOp .lss 3 (.tmp 206) (.tmp 207) 3) none,VOp.mk (some
 209) (.move (.tmp 208)) none,VOp.mk (some 210) (.move (.tmp 24)) (some (some 209,true)),VOp.mk (some 211) (.move (.tmp 3)) (some (some 209,true)),VOp.mk (some 212)
 (.binOp .lss 3 (.tmp 210) (.tmp 211) 3) (some (some 209,true)),VOp.mk (some 213) (.pick (.tmp 209) (.tmp 212) (.const (.bool false))) none]).seq (aC.cond (.tmp 213)
 (aC.ops [VOp.mk (some 214) (.move (.tmp 0)) none,VOp.mk (some 215) (.move (.tmp 18)) none,VOp.mk (some 216) (.move (.tmp 24)) none,VOp.mk (some 217) (.move (.tmp 3))
 none,VOp.mk (some 218) (.move (.tmp 4)) none,VOp.mk (some 219) (.call (.mk (.value (.func fM)) #[.tmp 214,.tmp 215,.tmp 216,.tmp 217,.tmp 218] #[tS,3,3,3,tF]))
 none]) aC.skip))
def nE (tS tE tF:TypeId) (fO fM:FuncId):aC:=((aC.ops [VOp.mk (some 25) (.move (.tmp 2)) none,VOp.mk (some 26) (.move (.tmp 1)) none,VOp.mk (some 27) (.binOp .sub 3 (.tmp 25) (.tmp 26) 3) none,VOp.mk (some 28)
 (.binOp .eql 3 (.tmp 27) (.const (.int .i64 1)) 3) none]).seq (aC.cond (.tmp 28) ((aC.ops [VOp.mk (some 29) (.move (.tmp 2)) none,VOp.mk (some 10) (.assign (.tmp 29))
 none]).seq ((aC.ops [VOp.mk (some 30) (.move (.tmp 3)) none,VOp.mk (some 11) (.assign (.tmp 30)) none]).seq ((aC.block 0 (((aC.ops [VOp.mk (some 31) (.move (.tmp
 10)) none,VOp.mk (some 32) (.move (.tmp 11)) none,VOp.mk (some 33) (.binOp .lss 3 (.tmp 31) (.tmp 32) 3) none]).seq (aC.cond (.tmp 33) aC.skip (aC.exit 0))).seq
 (aC.block 1 ((aC.ops [VOp.mk (some 34) (.move (.tmp 10)) none,VOp.mk (some 35) (.move (.tmp 11)) none,VOp.mk (some 36) (.binOp .add 3 (.tmp 34) (.tmp 35) 3) none,
 VOp.mk (some 37) (.convert 3 357 (.tmp 36)) none,VOp.mk (some 38) (.binOp .shr 357 (.tmp 37) (.const (.int .u64 1)) 357) none,VOp.mk (some 39) (.convert 357 3 (.tmp 38))
 none,VOp.mk (some 12) (.assign (.tmp 39)) none]).seq ((aC.ops [VOp.mk (some 40) (.move (.tmp 4)) none,VOp.mk (some 41) (.move (.tmp 0)) none,VOp.mk (some 42) (.move
 (.tmp 12)) none,VOp.mk (some 43) (.indexAddr tS (.tmp 41) (.tmp 42)) none,VOp.mk (some 44) (.load tE (.tmp 43)) none,VOp.mk (some 45) (.move (.tmp 0)) none,VOp.mk (some
 46) (.move (.tmp 1)) none,VOp.mk (some 47) (.indexAddr tS (.tmp 45) (.tmp 46)) none,VOp.mk (some 48) (.load tE (.tmp 47)) none,VOp.mk (some 49) (.call (.mk (.value (.tmp
 40)) #[.tmp 44,.tmp 48] #[tE,tE])) none,VOp.mk (some 50) (.binOp .lss 3 (.tmp 49) (.const (.int .i64 0)) 3) none]).seq (aC.cond (.tmp 50) (aC.ops [VOp.mk (some 51)
 (.move (.tmp 12)) none,VOp.mk (some 52) (.binOp .add 3 (.tmp 51) (.const (.int .i64 1)) 3) none,VOp.mk (some 10) (.assign (.tmp 52)) none]) (aC.ops [VOp.mk (some 53)
 (.move (.tmp 12)) none,VOp.mk (some 11) (.assign (.tmp 53)) none])))))).loop).seq (((aC.ops [VOp.mk (some 54) (.move (.tmp 1)) none,VOp.mk (some 13) (.assign (.tmp 54))
 none]).seq (aC.block 2 (((aC.ops [VOp.mk (some 55) (.move (.tmp 13)) none,VOp.mk (some 56) (.move (.tmp 10)) none,VOp.mk (some 57) (.binOp .sub 3 (.tmp 56) (.const
 (.int .i64 1)) 3) none,VOp.mk (some 58) (.binOp .lss 3 (.tmp 55) (.tmp 57) 3) none]).seq (aC.cond (.tmp 58) aC.skip (aC.exit 2))).seq ((aC.block 3 (aC.ops
 [VOp.mk (some 61) (.move (.tmp 0)) none,VOp.mk (some 62) (.move (.tmp 13)) none,VOp.mk (some 63) (.move (.tmp 0)) none,VOp.mk (some 64) (.move (.tmp 13)) none,VOp.mk (some
 65) (.binOp .add 3 (.tmp 64) (.const (.int .i64 1)) 3) none,VOp.mk (some 66) (.move (.tmp 0)) none,VOp.mk (some 67) (.move (.tmp 13)) none,VOp.mk (some 68) (.binOp .add 3
 (.tmp 67) (.const (.int .i64 1)) 3) none,VOp.mk (some 69) (.indexAddr tS (.tmp 66) (.tmp 68)) none,VOp.mk (some 70) (.load tE (.tmp 69)) none,VOp.mk (some 71) (.move (.tmp
 0)) none,VOp.mk (some 72) (.move (.tmp 13)) none,VOp.mk (some 73) (.indexAddr tS (.tmp 71) (.tmp 72)) none,VOp.mk (some 74) (.load tE (.tmp 73)) none,VOp.mk (some 75)
 (.indexAddr tS (.tmp 61) (.tmp 62)) none,VOp.mk none (.store tE (.tmp 75) (.tmp 70)) none,VOp.mk (some 76) (.indexAddr tS (.tmp 63) (.tmp 65)) none,VOp.mk none (.store tE
 (.tmp 76) (.tmp 74)) none])).seq (aC.ops [VOp.mk (some 59) (.move (.tmp 13)) none,VOp.mk (some 60) (.binOp .add 3 (.tmp 59) (.const (.int .i64 1)) 3) none,VOp.mk (some
 13) (.assign (.tmp 60)) none]))).loop)).seq aC.ret)))) aC.skip)).seq (((aC.ops [VOp.mk (some 77) (.move (.tmp 3)) none,VOp.mk (some 78) (.move (.tmp 2)) none,VOp.mk
 (some 79) (.binOp .sub 3 (.tmp 77) (.tmp 78) 3) none,VOp.mk (some 80) (.binOp .eql 3 (.tmp 79) (.const (.int .i64 1)) 3) none]).seq (aC.cond (.tmp 80) ((aC.ops [VOp.mk
 (some 81) (.move (.tmp 1)) none,VOp.mk (some 14) (.assign (.tmp 81)) none]).seq ((aC.ops [VOp.mk (some 82) (.move (.tmp 2)) none,VOp.mk (some 15) (.assign (.tmp 82))
 none]).seq ((aC.block 4 (((aC.ops [VOp.mk (some 83) (.move (.tmp 14)) none,VOp.mk (some 84) (.move (.tmp 15)) none,VOp.mk (some 85) (.binOp .lss 3 (.tmp 83) (.tmp 84)
 3) none]).seq (aC.cond (.tmp 85) aC.skip (aC.exit 4))).seq (aC.block 5 ((aC.ops [VOp.mk (some 86) (.move (.tmp 14)) none,VOp.mk (some 87) (.move (.tmp 15))
 none,VOp.mk (some 88) (.binOp .add 3 (.tmp 86) (.tmp 87) 3) none,VOp.mk (some 89) (.convert 3 357 (.tmp 88)) none,VOp.mk (some 90) (.binOp .shr 357 (.tmp 89) (.const (.int
 .u64 1)) 357) none,VOp.mk (some 91) (.convert 357 3 (.tmp 90)) none,VOp.mk (some 16) (.assign (.tmp 91)) none]).seq ((aC.ops [VOp.mk (some 92) (.move (.tmp 4)) none,
 VOp.mk (some 93) (.move (.tmp 0)) none,VOp.mk (some 94) (.move (.tmp 2)) none,VOp.mk (some 95) (.indexAddr tS (.tmp 93) (.tmp 94)) none,VOp.mk (some 96) (.load tE (.tmp
 95)) none,VOp.mk (some 97) (.move (.tmp 0)) none,VOp.mk (some 98) (.move (.tmp 16)) none,VOp.mk (some 99) (.indexAddr tS (.tmp 97) (.tmp 98)) none,VOp.mk (some 100) (.load
 tE (.tmp 99)) none,VOp.mk (some 101) (.call (.mk (.value (.tmp 92)) #[.tmp 96,.tmp 100] #[tE,tE])) none,VOp.mk (some 102) (.binOp .lss 3 (.tmp 101) (.const (.int .i64 0))
 3) none,VOp.mk (some 103) (.unOp .not 4 (.tmp 102)) none]).seq (aC.cond (.tmp 103) (aC.ops [VOp.mk (some 104) (.move (.tmp 16)) none,VOp.mk (some 105) (.binOp .add 3
 (.tmp 104) (.const (.int .i64 1)) 3) none,VOp.mk (some 14) (.assign (.tmp 105)) none]) (aC.ops [VOp.mk (some 106) (.move (.tmp 16)) none,VOp.mk (some 15) (.assign (.tmp
 106)) none])))))).loop).seq (((aC.ops [VOp.mk (some 107) (.move (.tmp 2)) none,VOp.mk (some 17) (.assign (.tmp 107)) none]).seq (aC.block 6 (((aC.ops [VOp.mk (some
 108) (.move (.tmp 17)) none,VOp.mk (some 109) (.move (.tmp 14)) none,VOp.mk (some 110) (.binOp .gtr 3 (.tmp 108) (.tmp 109) 3) none]).seq (aC.cond (.tmp 110) aC.skip
 (aC.exit 6))).seq ((aC.block 7 (aC.ops [VOp.mk (some 113) (.move (.tmp 0)) none,VOp.mk (some 114) (.move (.tmp 17)) none,VOp.mk (some 115) (.move (.tmp 0)) none,
 VOp.mk (some 116) (.move (.tmp 17)) none,VOp.mk (some 117) (.binOp .sub 3 (.tmp 116) (.const (.int .i64 1)) 3) none,VOp.mk (some 118) (.move (.tmp 0)) none,VOp.mk (some
 119) (.move (.tmp 17)) none,VOp.mk (some 120) (.binOp .sub 3 (.tmp 119) (.const (.int .i64 1)) 3) none,VOp.mk (some 121) (.indexAddr tS (.tmp 118) (.tmp 120)) none,VOp.mk
 (some 122) (.load tE (.tmp 121)) none,VOp.mk (some 123) (.move (.tmp 0)) none,VOp.mk (some 124) (.move (.tmp 17)) none,VOp.mk (some 125) (.indexAddr tS (.tmp 123) (.tmp
 124)) none,VOp.mk (some 126) (.load tE (.tmp 125)) none,VOp.mk (some 127) (.indexAddr tS (.tmp 113) (.tmp 114)) none,VOp.mk none (.store tE (.tmp 127) (.tmp 122)) none,
 VOp.mk (some 128) (.indexAddr tS (.tmp 115) (.tmp 117)) none,VOp.mk none (.store tE (.tmp 128) (.tmp 126)) none])).seq (aC.ops [VOp.mk (some 111) (.move (.tmp 17)) none,
 VOp.mk (some 112) (.binOp .sub 3 (.tmp 111) (.const (.int .i64 1)) 3) none,VOp.mk (some 17) (.assign (.tmp 112)) none]))).loop)).seq aC.ret)))) aC.skip)).seq
 ((aC.ops [VOp.mk (some 129) (.move (.tmp 1)) none,VOp.mk (some 130) (.move (.tmp 3)) none,VOp.mk (some 131) (.binOp .add 3 (.tmp 129) (.tmp 130) 3) none,VOp.mk (some
 132) (.convert 3 357 (.tmp 131)) none,VOp.mk (some 133) (.binOp .shr 357 (.tmp 132) (.const (.int .u64 1)) 357) none,VOp.mk (some 134) (.convert 357 3 (.tmp 133)) none,
 VOp.mk (some 18) (.assign (.tmp 134)) none]).seq ((aC.ops [VOp.mk (some 135) (.move (.tmp 18)) none,VOp.mk (some 136) (.move (.tmp 2)) none,VOp.mk (some 137) (.binOp .add
 3 (.tmp 135) (.tmp 136) 3) none,VOp.mk (some 19) (.assign (.tmp 137)) none]).seq ((aC.ops [VOp.mk (some 20) (.assign (.const (.int .i64 0))) none,VOp.mk (some 21)
 (.assign (.const (.int .i64 0))) none]).seq (((aC.ops [VOp.mk (some 138) (.move (.tmp 2)) none,VOp.mk (some 139) (.move (.tmp 18)) none,VOp.mk (some 140) (.binOp .gtr 3
 (.tmp 138) (.tmp 139) 3) none]).seq (aC.cond (.tmp 140) ((aC.ops [VOp.mk (some 141) (.move (.tmp 19)) none,VOp.mk (some 142) (.move (.tmp 3)) none,VOp.mk (some 143)
 (.binOp .sub 3 (.tmp 141) (.tmp 142) 3) none,VOp.mk (some 20) (.assign (.tmp 143)) none]).seq (aC.ops [VOp.mk (some 144) (.move (.tmp 18)) none,VOp.mk (some 21) (.assign
 (.tmp 144)) none])) ((aC.ops [VOp.mk (some 145) (.move (.tmp 1)) none,VOp.mk (some 20) (.assign (.tmp 145)) none]).seq (aC.ops [VOp.mk (some 146) (.move (.tmp 2)) none,
 VOp.mk (some 21) (.assign (.tmp 146)) none])))).seq ((aC.ops [VOp.mk (some 147) (.move (.tmp 19)) none,VOp.mk (some 148) (.binOp .sub 3 (.tmp 147) (.const (.int .i64 1))
 3) none,VOp.mk (some 22) (.assign (.tmp 148)) none]).seq ((aC.block 8 (((aC.ops [VOp.mk (some 149) (.move (.tmp 20)) none,VOp.mk (some 150) (.move (.tmp 21)) none,
 VOp.mk (some 151) (.binOp .lss 3 (.tmp 149) (.tmp 150) 3) none]).seq (aC.cond (.tmp 151) aC.skip (aC.exit 8))).seq (aC.block 9 ((aC.ops [VOp.mk (some 152)
 (.move (.tmp 20)) none,VOp.mk (some 153) (.move (.tmp 21)) none,VOp.mk (some 154) (.binOp .add 3 (.tmp 152) (.tmp 153) 3) none,VOp.mk (some 155) (.convert 3 357 (.tmp 154))
 none,VOp.mk (some 156) (.binOp .shr 357 (.tmp 155) (.const (.int .u64 1)) 357) none,VOp.mk (some 157) (.convert 357 3 (.tmp 156)) none,VOp.mk (some 23) (.assign (.tmp 157))
 none]).seq ((aC.ops [VOp.mk (some 158) (.move (.tmp 4)) none,VOp.mk (some 159) (.move (.tmp 0)) none,VOp.mk (some 160) (.move (.tmp 22)) none,VOp.mk (some 161) (.move
 (.tmp 23)) none,VOp.mk (some 162) (.binOp .sub 3 (.tmp 160) (.tmp 161) 3) none,VOp.mk (some 163) (.indexAddr tS (.tmp 159) (.tmp 162)) none,VOp.mk (some 164) (.load tE
 (.tmp 163)) none,VOp.mk (some 165) (.move (.tmp 0)) none,VOp.mk (some 166) (.move (.tmp 23)) none,VOp.mk (some 167) (.indexAddr tS (.tmp 165) (.tmp 166)) none,VOp.mk (some
 168) (.load tE (.tmp 167)) none,VOp.mk (some 169) (.call (.mk (.value (.tmp 158)) #[.tmp 164,.tmp 168] #[tE,tE])) none,VOp.mk (some 170) (.binOp .lss 3 (.tmp 169) (.const
 (.int .i64 0)) 3) none,VOp.mk (some 171) (.unOp .not 4 (.tmp 170)) none]).seq (aC.cond (.tmp 171) (aC.ops [VOp.mk (some 172) (.move (.tmp 23)) none,VOp.mk (some 173)
 (.binOp .add 3 (.tmp 172) (.const (.int .i64 1)) 3) none,VOp.mk (some 20) (.assign (.tmp 173)) none]) (aC.ops [VOp.mk (some 174) (.move (.tmp 23)) none,VOp.mk (some 21)
 (.assign (.tmp 174)) none])))))).loop).seq ((aC.ops [VOp.mk (some 175) (.move (.tmp 19)) none,VOp.mk (some 176) (.move (.tmp 20)) none,VOp.mk (some 177) (.binOp .sub 3
 (.tmp 175) (.tmp 176) 3) none,VOp.mk (some 24) (.assign (.tmp 177)) none]).seq ((zA4 tS tF fO).seq ((zA5 tS tF fM).seq (zA6 tS tF fM)))))))))))
def oB (tS tF:TypeId) (fN fM:FuncId):aC:=(aC.ops [VOp.mk (some 6) (.assign (.const (.int .i64 20))) none]).seq ((aC.ops [VOp.mk (some 10) (.move (.tmp 6)) none,VOp.mk (some 7) (.assign (.const (.int .i64 0)))
 none,VOp.mk (some 8) (.assign (.tmp 10)) none]).seq ((aC.block 0 (((aC.ops [VOp.mk (some 11) (.move (.tmp 8)) none,VOp.mk (some 12) (.move (.tmp 1)) none,VOp.mk (some
 13) (.binOp .leq 3 (.tmp 11) (.tmp 12) 3) none]).seq (aC.cond (.tmp 13) aC.skip (aC.exit 0))).seq (aC.block 1 ((aC.ops [VOp.mk (some 14) (.move (.tmp 0)) none,
 VOp.mk (some 15) (.move (.tmp 7)) none,VOp.mk (some 16) (.move (.tmp 8)) none,VOp.mk (some 17) (.move (.tmp 2)) none,VOp.mk (some 18) (.call (.mk (.value (.func fN)) #[.tmp
 14,.tmp 15,.tmp 16,.tmp 17] #[tS,3,3,tF])) none]).seq ((aC.ops [VOp.mk (some 19) (.move (.tmp 8)) none,VOp.mk (some 7) (.assign (.tmp 19)) none]).seq (aC.ops
 [VOp.mk (some 20) (.move (.tmp 8)) none,VOp.mk (some 21) (.move (.tmp 6)) none,VOp.mk (some 22) (.binOp .add 3 (.tmp 20) (.tmp 21) 3) none,VOp.mk (some 8) (.assign (.tmp
 22)) none]))))).loop).seq ((aC.ops [VOp.mk (some 23) (.move (.tmp 0)) none,VOp.mk (some 24) (.move (.tmp 7)) none,VOp.mk (some 25) (.move (.tmp 1)) none,VOp.mk (some 26)
 (.move (.tmp 2)) none,VOp.mk (some 27) (.call (.mk (.value (.func fN)) #[.tmp 23,.tmp 24,.tmp 25,.tmp 26] #[tS,3,3,tF])) none]).seq (aC.block 2 (((aC.ops [VOp.mk
 (some 28) (.move (.tmp 6)) none,VOp.mk (some 29) (.move (.tmp 1)) none,VOp.mk (some 30) (.binOp .lss 3 (.tmp 28) (.tmp 29) 3) none]).seq (aC.cond (.tmp 30) aC.skip
 (aC.exit 2))).seq (aC.block 3 ((aC.ops [VOp.mk (some 31) (.move (.tmp 6)) none,VOp.mk (some 32) (.binOp .mul 3 (.const (.int .i64 2)) (.tmp 31) 3) none,VOp.mk (some
 7) (.assign (.const (.int .i64 0))) none,VOp.mk (some 8) (.assign (.tmp 32)) none]).seq ((aC.block 4 (((aC.ops [VOp.mk (some 33) (.move (.tmp 8)) none,VOp.mk (some 34)
 (.move (.tmp 1)) none,VOp.mk (some 35) (.binOp .leq 3 (.tmp 33) (.tmp 34) 3) none]).seq (aC.cond (.tmp 35) aC.skip (aC.exit 4))).seq (aC.block 5 ((aC.ops
 [VOp.mk (some 36) (.move (.tmp 0)) none,VOp.mk (some 37) (.move (.tmp 7)) none,VOp.mk (some 38) (.move (.tmp 7)) none,VOp.mk (some 39) (.move (.tmp 6)) none,VOp.mk (some
 40) (.binOp .add 3 (.tmp 38) (.tmp 39) 3) none,VOp.mk (some 41) (.move (.tmp 8)) none,VOp.mk (some 42) (.move (.tmp 2)) none,VOp.mk (some 43) (.call (.mk (.value (.func
 fM)) #[.tmp 36,.tmp 37,.tmp 40,.tmp 41,.tmp 42] #[tS,3,3,3,tF])) none]).seq ((aC.ops [VOp.mk (some 44) (.move (.tmp 8)) none,VOp.mk (some 7) (.assign (.tmp 44))
 none]).seq (aC.ops [VOp.mk (some 45) (.move (.tmp 8)) none,VOp.mk (some 46) (.move (.tmp 6)) none,VOp.mk (some 47) (.binOp .mul 3 (.const (.int .i64 2)) (.tmp 46) 3)
 none,VOp.mk (some 48) (.binOp .add 3 (.tmp 45) (.tmp 47) 3) none,VOp.mk (some 8) (.assign (.tmp 48)) none]))))).loop).seq (((aC.ops [VOp.mk (some 49) (.move (.tmp 7))
 none,VOp.mk (some 50) (.move (.tmp 6)) none,VOp.mk (some 51) (.binOp .add 3 (.tmp 49) (.tmp 50) 3) none,VOp.mk (some 9) (.assign (.tmp 51)) none]).seq ((aC.ops [VOp.mk
 (some 52) (.move (.tmp 9)) none,VOp.mk (some 53) (.move (.tmp 1)) none,VOp.mk (some 54) (.binOp .lss 3 (.tmp 52) (.tmp 53) 3) none]).seq (aC.cond (.tmp 54) (aC.ops
 [VOp.mk (some 55) (.move (.tmp 0)) none,VOp.mk (some 56) (.move (.tmp 7)) none,VOp.mk (some 57) (.move (.tmp 9)) none,VOp.mk (some 58) (.move (.tmp 1)) none,VOp.mk (some
 59) (.move (.tmp 2)) none,VOp.mk (some 60) (.call (.mk (.value (.func fM)) #[.tmp 55,.tmp 56,.tmp 57,.tmp 58,.tmp 59] #[tS,3,3,3,tF])) none]) aC.skip))).seq
 (aC.ops [VOp.mk (some 61) (.move (.tmp 6)) none,VOp.mk (some 62) (.binOp .mul 3 (.tmp 61) (.const (.int .i64 2)) 3) none,VOp.mk (some 6) (.assign (.tmp 62))
 none])))))).loop))))
def pF (tS tF:TypeId) (fT:FuncId):aC:=aC.ops [VOp.mk (some 4) (.move (.tmp 0)) none,VOp.mk (some 5) (.move (.tmp 0)) none,VOp.mk (some 6) (.call (.mk (.builtin .len) #[.tmp 5] #[tS])) none,VOp.mk (some 7)
 (.move (.tmp 1)) none,VOp.mk (some 8) (.call (.mk (.value (.func fT)) #[.tmp 4,.tmp 6,.tmp 7] #[tS,3,tF])) none]
def pG (tS:TypeId):aC:=(aC.ops [VOp.mk (some 2) (.assign (.const (.slice none 0 0))) none]).seq (((aC.ops [VOp.mk (some 3) (.move (.tmp 0)) none,VOp.mk (some 4) (.binOp .eql tS (.tmp 3)
 (.const (.slice none 0 0)) tS) none]).seq (aC.cond (.tmp 4) ((aC.ops [VOp.mk (some 2) (.assign (.const (.slice none 0 0))) none]).seq aC.ret) aC.skip)).seq
 ((aC.ops [VOp.mk (some 5) (.buildSlice tS 0 #[]) none,VOp.mk (some 6) (.move (.tmp 0)) none,VOp.mk (some 7) (.call (.mk (.builtin .append) #[.tmp 5,.tmp 6] #[tS,tS]))
 none,VOp.mk (some 2) (.assign (.tmp 7)) none]).seq aC.ret))
def qN (tS tE tF tN:TypeId) (fC fL fS:FuncId):aC:=(aC.ops [VOp.mk (some 4) (.box tN (.tmp 1)) none,VOp.mk (some 6) (.assign (.const (.slice none 0 0))) none]).seq ((aC.ops [VOp.mk (some 9) (.move (.tmp 0)) none,VOp.mk
 (some 10) (.call (.mk (.value (.func fC)) #[.tmp 9] #[tS])) none,VOp.mk (some 7) (.assign (.tmp 10)) none]).seq (((aC.ops [VOp.mk (some 11) (.move (.tmp 7)) none,VOp.mk
 (some 12) (.call (.mk (.builtin .len) #[.tmp 11] #[tS])) none,VOp.mk (some 13) (.move (.const (.int .i64 0))) none]).seq (aC.block 0 ((aC.ops [VOp.mk (some 14) (.binOp
 .lss 3 (.tmp 13) (.tmp 12) 3) none]).seq ((aC.cond (.tmp 14) aC.skip (aC.exit 0)).seq ((aC.block 1 ((aC.ops [VOp.mk (some 15) (.move (.tmp 13)) none,VOp.mk
 (some 8) (.assign (.tmp 15)) none]).seq (aC.ops [VOp.mk (some 16) (.move (.tmp 7)) none,VOp.mk (some 17) (.move (.tmp 8)) none,VOp.mk (some 18) (.move (.tmp 2)) none,
 VOp.mk (some 19) (.move (.tmp 7)) none,VOp.mk (some 20) (.move (.tmp 8)) none,VOp.mk (some 21) (.indexAddr tS (.tmp 19) (.tmp 20)) none,VOp.mk (some 22) (.load tE (.tmp
 21)) none,VOp.mk (some 23) (.call (.mk (.value (.tmp 18)) #[.tmp 22] #[tE])) none,VOp.mk (some 24) (.indexAddr tS (.tmp 16) (.tmp 17)) none,VOp.mk none (.store tE (.tmp 24)
 (.tmp 23)) none]))).seq (aC.ops [VOp.mk (some 25) (.binOp .add 3 (.tmp 13) (.const (.int .i64 1)) 3) none,VOp.mk (some 13) (.move (.tmp 25)) none])))).loop)).seq
 ((aC.ops [VOp.mk (some 26) (.move (.tmp 7)) none,VOp.mk (some 27) (.makeFunc (.func fL) #[] #[.tmp 4]) none,VOp.mk (some 28) (.call (.mk (.value (.func fS)) #[.tmp 26,
 .tmp 27] #[tS,tF])) none]).seq ((aC.ops [VOp.mk (some 29) (.move (.tmp 7)) none,VOp.mk (some 6) (.assign (.tmp 29)) none]).seq aC.ret))))
theorem jJ8:aK kd5 300 38 (lJ 59 133) []:=⟨Tryz.f300,_,[],Tryz.func300,rfl,rfl,rfl,by kernel_rfl,by kernel_rfl,by kernel_rfl⟩
theorem jJ9:aK kd5 278 58 (mM 59 268 300) []:=⟨Tryz.f278,_,[],Tryz.func278,rfl,rfl,rfl,by kernel_rfl,by kernel_rfl,by kernel_rfl⟩
theorem jK0:aK kd5 238 53 (nD 59 133) []:=⟨Tryz.f238,_,[],Tryz.func238,rfl,rfl,rfl,by kernel_rfl,by kernel_rfl,by kernel_rfl⟩
theorem jK1:aK kd5 239 220 (nE 59 133 268 278 239) []:=⟨Tryz.f239,_,[],Tryz.func239,rfl,rfl,rfl,by kernel_rfl,by kernel_rfl,by kernel_rfl⟩
theorem jK2:aK kd5 185 63 (oB 59 268 238 239) []:=⟨Tryz.f185,_,[],Tryz.func185,rfl,rfl,rfl,by kernel_rfl,by kernel_rfl,by kernel_rfl⟩
theorem jK3:aK kd5 127 9 (pF 59 268 185) []:=⟨Tryz.f127,_,[],Tryz.func127,rfl,rfl,rfl,by kernel_rfl,by kernel_rfl,by kernel_rfl⟩
theorem jK4:aK kd5 126 8 (pG 59) [ResultVar.tmp 2]:=⟨Tryz.f126,_,[],Tryz.func126,rfl,rfl,rfl,by kernel_rfl,by kernel_rfl,by kernel_rfl⟩
theorem jK5:aK kd5 83 30 (qN 59 133 268 187 126 128 127) [ResultVar.tmp 6]:=⟨Tryz.f83,_,[],Tryz.func83,rfl,rfl,rfl,by kernel_rfl,by kernel_rfl,by kernel_rfl⟩
theorem jK6:aK kd5 301 38 (lJ 60 126) []:=⟨Tryz.f301,_,[],Tryz.func301,rfl,rfl,rfl,by kernel_rfl,by kernel_rfl,by kernel_rfl⟩
theorem jK7:aK kd5 279 58 (mM 60 271 301) []:=⟨Tryz.f279,_,[],Tryz.func279,rfl,rfl,rfl,by kernel_rfl,by kernel_rfl,by kernel_rfl⟩
theorem jK8:aK kd5 241 53 (nD 60 126) []:=⟨Tryz.f241,_,[],Tryz.func241,rfl,rfl,rfl,by kernel_rfl,by kernel_rfl,by kernel_rfl⟩
theorem jK9:aK kd5 242 220 (nE 60 126 271 279 242) []:=⟨Tryz.f242,_,[],Tryz.func242,rfl,rfl,rfl,by kernel_rfl,by kernel_rfl,by kernel_rfl⟩
theorem jL0:aK kd5 187 63 (oB 60 271 241 242) []:=⟨Tryz.f187,_,[],Tryz.func187,rfl,rfl,rfl,by kernel_rfl,by kernel_rfl,by kernel_rfl⟩
theorem jL1:aK kd5 131 9 (pF 60 271 187) []:=⟨Tryz.f131,_,[],Tryz.func131,rfl,rfl,rfl,by kernel_rfl,by kernel_rfl,by kernel_rfl⟩
theorem jL2:aK kd5 130 8 (pG 60) [ResultVar.tmp 2]:=⟨Tryz.f130,_,[],Tryz.func130,rfl,rfl,rfl,by kernel_rfl,by kernel_rfl,by kernel_rfl⟩
theorem jL3:aK kd5 86 30 (qN 60 126 271 190 130 132 131) [ResultVar.tmp 6]:=⟨Tryz.f86,_,[],Tryz.func86,rfl,rfl,rfl,by kernel_rfl,by kernel_rfl,by kernel_rfl⟩
theorem jL4:aK kd5 302 38 (lJ 61 140) []:=⟨Tryz.f302,_,[],Tryz.func302,rfl,rfl,rfl,by kernel_rfl,by kernel_rfl,by kernel_rfl⟩
theorem jL5:aK kd5 280 58 (mM 61 274 302) []:=⟨Tryz.f280,_,[],Tryz.func280,rfl,rfl,rfl,by kernel_rfl,by kernel_rfl,by kernel_rfl⟩
theorem jL6:aK kd5 243 53 (nD 61 140) []:=⟨Tryz.f243,_,[],Tryz.func243,rfl,rfl,rfl,by kernel_rfl,by kernel_rfl,by kernel_rfl⟩
theorem jL7:aK kd5 244 220 (nE 61 140 274 280 244) []:=⟨Tryz.f244,_,[],Tryz.func244,rfl,rfl,rfl,by kernel_rfl,by kernel_rfl,by kernel_rfl⟩
theorem jL8:aK kd5 188 63 (oB 61 274 243 244) []:=⟨Tryz.f188,_,[],Tryz.func188,rfl,rfl,rfl,by kernel_rfl,by kernel_rfl,by kernel_rfl⟩
theorem jL9:aK kd5 134 9 (pF 61 274 188) []:=⟨Tryz.f134,_,[],Tryz.func134,rfl,rfl,rfl,by kernel_rfl,by kernel_rfl,by kernel_rfl⟩
theorem jM0:aK kd5 133 8 (pG 61) [ResultVar.tmp 2]:=⟨Tryz.f133,_,[],Tryz.func133,rfl,rfl,rfl,by kernel_rfl,by kernel_rfl,by kernel_rfl⟩
theorem jM1:aK kd5 89 30 (qN 61 140 274 193 133 135 134) [ResultVar.tmp 6]:=⟨Tryz.f89,_,[],Tryz.func89,rfl,rfl,rfl,by kernel_rfl,by kernel_rfl,by kernel_rfl⟩
theorem jM2:aK kd5 303 38 (lJ 62 161) []:=⟨Tryz.f303,_,[],Tryz.func303,rfl,rfl,rfl,by kernel_rfl,by kernel_rfl,by kernel_rfl⟩
theorem jM3:aK kd5 281 58 (mM 62 277 303) []:=⟨Tryz.f281,_,[],Tryz.func281,rfl,rfl,rfl,by kernel_rfl,by kernel_rfl,by kernel_rfl⟩
theorem jM4:aK kd5 245 53 (nD 62 161) []:=⟨Tryz.f245,_,[],Tryz.func245,rfl,rfl,rfl,by kernel_rfl,by kernel_rfl,by kernel_rfl⟩
theorem jM5:aK kd5 246 220 (nE 62 161 277 281 246) []:=⟨Tryz.f246,_,[],Tryz.func246,rfl,rfl,rfl,by kernel_rfl,by kernel_rfl,by kernel_rfl⟩
theorem jM6:aK kd5 189 63 (oB 62 277 245 246) []:=⟨Tryz.f189,_,[],Tryz.func189,rfl,rfl,rfl,by kernel_rfl,by kernel_rfl,by kernel_rfl⟩
theorem jM7:aK kd5 137 9 (pF 62 277 189) []:=⟨Tryz.f137,_,[],Tryz.func137,rfl,rfl,rfl,by kernel_rfl,by kernel_rfl,by kernel_rfl⟩
theorem jM8:aK kd5 136 8 (pG 62) [ResultVar.tmp 2]:=⟨Tryz.f136,_,[],Tryz.func136,rfl,rfl,rfl,by kernel_rfl,by kernel_rfl,by kernel_rfl⟩
theorem jM9:aK kd5 92 30 (qN 62 161 277 196 136 138 137) [ResultVar.tmp 6]:=⟨Tryz.f92,_,[],Tryz.func92,rfl,rfl,rfl,by kernel_rfl,by kernel_rfl,by kernel_rfl⟩
theorem jN0:aK kd5 304 38 (lJ 63 162) []:=⟨Tryz.f304,_,[],Tryz.func304,rfl,rfl,rfl,by kernel_rfl,by kernel_rfl,by kernel_rfl⟩
theorem jN1:aK kd5 282 58 (mM 63 280 304) []:=⟨Tryz.f282,_,[],Tryz.func282,rfl,rfl,rfl,by kernel_rfl,by kernel_rfl,by kernel_rfl⟩
theorem jN2:aK kd5 247 53 (nD 63 162) []:=⟨Tryz.f247,_,[],Tryz.func247,rfl,rfl,rfl,by kernel_rfl,by kernel_rfl,by kernel_rfl⟩
theorem jN3:aK kd5 248 220 (nE 63 162 280 282 248) []:=⟨Tryz.f248,_,[],Tryz.func248,rfl,rfl,rfl,by kernel_rfl,by kernel_rfl,by kernel_rfl⟩
theorem jN4:aK kd5 190 63 (oB 63 280 247 248) []:=⟨Tryz.f190,_,[],Tryz.func190,rfl,rfl,rfl,by kernel_rfl,by kernel_rfl,by kernel_rfl⟩
theorem jN5:aK kd5 140 9 (pF 63 280 190) []:=⟨Tryz.f140,_,[],Tryz.func140,rfl,rfl,rfl,by kernel_rfl,by kernel_rfl,by kernel_rfl⟩
theorem jN6:aK kd5 139 8 (pG 63) [ResultVar.tmp 2]:=⟨Tryz.f139,_,[],Tryz.func139,rfl,rfl,rfl,by kernel_rfl,by kernel_rfl,by kernel_rfl⟩
theorem jN7:aK kd5 95 30 (qN 63 162 280 199 139 141 140) [ResultVar.tmp 6]:=⟨Tryz.f95,_,[],Tryz.func95,rfl,rfl,rfl,by kernel_rfl,by kernel_rfl,by kernel_rfl⟩
end Go.Vt.Tryz
