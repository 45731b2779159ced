import Derived.Test.YtdabfkmhkoppcaaGreatDoorProg
import Derived.Test.YtdabfkmhkoppcaaGreatDoorVtBun
import Derived.Test.YtdabfkmhkoppcaaGreatDoorVtComp
import Derived.Test.YtdabfkmhkoppcaaGreatDoorVtQ3
set_option linter.all false
set_option maxHeartbeats 2000000
set_option maxRecDepth 100000
open List renaming map_cons→ke5,map_nil→ke8
open Go.Proofs.Tryz renaming prog→kd5
open Go.Vt.aA renaming funs→ke2,sigs→ke4,subs→ke3
open Go.Vt renaming mkV→J1
open Nat renaming reduceBEq→J2,reduceAdd→J6
namespace Go.Vt.Tryz
open Go.Proofs
def sgs:List (Nat×cF):=[(29,[(1,[([0,1,3,4,6,7,9,10,12,13,2,5,8,11,14,15,16],[(2,[3,4,6,7,9,10,12,13]),(5,[6,7,9,10,12,13]),(8,[9,10,12,13]),(11,[12,13])])])]),
 (34,[(2,[([0,1,2,3,4,5,6,7,8],[(5,[1,2])])])]),
 (37,[(10,[([],[]),([0,1,2,3,4,5,6,7,8,9,10],[(8,[0,3])]),([0,1,2,3,8,4,5,6,7,9,10],[]),([0,1,2,3,8,4,5,6,7,9,10],[])]),(13,[([],[]),([0,1,2,3,4,5,6,7,8,9,10,11,12],[(10,[1,4,5])]),([0,1,2,3,4,5,10,6,7,8,9,11,12],[]),([0,1,2,3,4,5,10,6,7,8,9,11,12],[])])]),
 (41,[(2,[([0,1,2,3,4,5,8,6,7,9,10],[(6,[0,1,2])])])]),
 (47,[(10,[([],[]),([0,1,2,3,4,5,6,7,8,9,10],[(8,[0,3])]),([0,1,2,3,8,4,5,6,7,9,10],[]),([0,1,2,3,8,4,5,6,7,9,10],[])]),(13,[([],[]),([0,1,2,3,4,5,6,7,8,9,10,11,12],[(10,[1,4,5])]),([0,1,2,3,4,5,10,6,7,8,9,11,12],[]),([0,1,2,3,4,5,10,6,7,8,9,11,12],[])])]),
 (51,[(2,[([0,1,2,3,4,5,8,6,7,9,10],[(6,[0,1,2])])])]),
 (91,[(1,[([0,1,2,3,4,5,6],[(4,[0,1])])])]),
 (94,[(2,[([0,1,2,3,4,5,7,8,9,10,11,12,6,13,14,15,16,17],[(6,[0,1,2,3,7,8,9,10,11,12]),(13,[0,1,2,3,7,8,9])])])]),
 (97,[(1,[([0,1,2,3,4,5,6,7,8,9,10,11],[(8,[0,1,2,3,4])])])]),
 (108,[(5,[([0,1,2,3,4,5,6,7,8,9,10,11],[(9,[0,1,2,3])])]),(15,[([0,1,2,3,4,5,6,7,8,12,9,10,11,13,14,15],[(9,[0,1,2,3]),(13,[0,1,2,3])])]),(20,[([0,1,2,3,4,5,6,7,8,9,10,11,12],[(10,[0,1,2,3])])])]),
 (109,[(1,[([0,1,2,3,5,6,7,8,9,4,10,11],[(4,[6,7,8,9])])])]),
 (128,[(1,[([0,1,3,4,2,5,6,7],[(2,[3,4])])])]),
 (132,[(1,[([0,1,3,4,2,5,6,7],[(2,[3,4])])])]),
 (135,[(1,[([0,1,3,4,2,5,6,7],[(2,[3,4])])])]),
 (138,[(1,[([0,1,3,4,2,5,6,7],[(2,[3,4])])])]),
 (141,[(1,[([0,1,3,4,2,5,6,7],[(2,[3,4])])])]),
 (158,[(5,[([],[]),([0,1,2,3,4,5,6,7,8],[(5,[0,1]),(7,[0,1,2,3,4])]),([0,1,2,3,4,7,5,6,8],[]),([0,1,2,3,4,7,5,6,8],[])]),(13,[([0,1,2,3,4,5,6,7,8],[(4,[0,1]),(5,[0,1])])]),(22,[([0,1,2,3,4,5,6,7,8,9,10,11,12,13,14,15,16,17],[(11,[0,1,2,3,4,5,6]),(14,[0,1])])]),(27,[([],[]),([0,1,2,3,4,7,5,6,8,9,10,12,11,13],[(5,[0,1,7]),(8,[0,1,3,4,7]),(11,[12]),(13,[10])]),([0,1,2,3,4,7,5,6,8,9,10,12,13,11],[]),([0,1,2,3,4,7,8,5,6,9,10,12,11,13],[]),([0,1,2,3,4,7,8,5,6,9,10,12,13,11],[])]),(33,[([],[]),([0,1,2,3,4,5,6,7,8,9,11,10,12],[(7,[0,1,2,3,4,6]),(10,[11]),(12,[9])]),([0,1,2,3,4,5,6,7,8,9,11,12,10],[]),([0,1,2,3,4,5,6,7,8,9,11,12,10],[])]),(38,[([],[]),([0,1,2,3,4,5,6,9,7,8,10,11,12,14,13,15],[(7,[0,1,2,3,9]),(10,[0,1,2,3,4,5,6,9]),(13,[14]),(15,[12])]),([0,1,2,3,4,5,6,9,7,8,10,11,12,14,15,13],[]),([0,1,2,3,4,5,6,9,10,7,8,11,12,14,13,15],[]),([0,1,2,3,4,5,6,9,10,7,8,11,12,14,15,13],[])])]),
 (159,[(0,[([0,1,2,3,5,4,6,7,8],[(4,[1,2])])])]),
 (163,[(2,[([0,1,2,3,4,5,6,7,8,9],[(6,[0])])])]),
 (222,[(7,[([0,1,2,3,4,5,6,7],[(5,[0,1])])])]),
 (223,[(0,[([0,1,2,3,5,6,7,8,4,10,9,11,12,13],[(4,[5,6,7,8]),(9,[10])])])]),
 (226,[(16,[([],[]),([0,1,2,3,4,5,6,7,8,9,10,11],[(8,[0,1,2,3,4,5,6,7]),(9,[0,1,2,3,4,5,6,7]),(10,[4,5,6,7])]),([0,1,2,3,4,5,6,7,9,8,10,11],[]),([0,1,2,3,4,5,6,7,9,8,10,11],[])]),(19,[([0,1,2,3,6,4,5,7,8,9],[(4,[6])])]),(21,[([0,1,2,3,6,7,8,9,4,5,10,11,12,13,14,15,16,17],[(4,[6,7,8])])])]),
 (227,[(14,[([0,1,2,3,4,5,6,7],[(5,[0,1])])])]),
 (228,[(3,[([0,1,2,3,5,6,7,8,9,11,4,10,12],[(4,[6,7,8,9])])])]),
 (266,[(0,[([0,1,2,3,6,9,10,11,12,13,4,5,7,8,14,15],[(4,[10,11,12,13]),(8,[10,11,12,13])])])]),
 (306,[(2,[([0,1,2,3,4,5,6,7,8,9,10,11],[(7,[2,3,4])])])])]
theorem j87:sB kd5 163 (zT2 Tryz.f163 3 21 (lkO sgs 163)):=
 ⟨Tryz.f163,xE 3 (aX Tryz.f163),tlC (tlN 3 (aX Tryz.f163)),zq0 (hdC (tlN 3 (aX Tryz.f163))),(sE (hdC (tlN 3 (aX Tryz.f163)))).dropLast,(sE (hdC (tlN 3 (aX Tryz.f163)))).getLast!,lkO sgs 163,Tryz.func163,
  by kernel_rfl,by kernel_rfl,by kernel_rfl,by kernel_rfl,by kernel_rfl,by kernel_rfl,by kernel_rfl,by kernel_rfl,by kernel_rfl,by kernel_rfl,by kernel_rfl,by kernel_rfl,by kernel_rfl⟩
noncomputable def mS (f:FuncId):Option DF:=match Nat.beq f 163 with
 |true=>some (zT2 Tryz.f163 3 21 (lkO sgs 163))
 |false=>none
theorem j88:∀f x,mS f=some x→sB kd5 f x:=by
 intro f x h;unfold mS at h;split at h
 ·rename_i e;have:=gD e;subst this;cases h;exact j87
 ·cases h
def jc8:eK:=fun _ _ _=>none
theorem j89:iD kd5 jc8:=fun _ _ _ _ _ h=>by cases h
def jc9:sC:=fun _ _ _=>none
theorem j90:zc7 kd5 jc9:=fun _ _ _ _ h=>by cases h
noncomputable def run:eK:=sD kd5 (zp9 kd5 sgs) mS jc8 jc9 100000 200
theorem j91:iD kd5 run:=zT1 aR jw3 j88 j89 j90 200
theorem j92:run 13 [] []=some (.one (.d (.bool true)),[]):=by kernel_rfl
theorem jd0:VC kd5 13 [] [] fun r h'=>r = .one (.d (.bool true))∧h'=[]:=j91 _ _ _ _ _ j92
#print axioms jd0
open Go.Proofs Go.Vt.Al
theorem j93 (l fr to:List Int) (s:Stx):pJ (aF fr to) (l,s) (bU (cR (l,s)++to) (aF fr to) [] (l,s) w0).1:=
 jT2 (l,s) fun n hn hq=>by
  rcases jc6 fr to n with h|h
  ·rw[h];exact List.mem_append_left _ (jT5 hn hq)
  ·exact List.mem_append_right _ h
theorem j94 (l l' fr to:List Int) (s s':Stx) (hl:l.length<5000000) (hs:stn s<5000000) (hn:cK s) (hl':l'.length<5000000) (hs':stn s'<5000000) (hn':cK s') (hf:fr.length<5000000) (ht:to.length<5000000) :
  VC kd5 7 [abW l s,abW l' s',.one (.d (.sl (nums fr))),.one (.d (.sl (nums to)))] [] fun r h'=>r = .one (.d (.bool true))∧h'=[]:=by
 have c1:=j05 s l fr to (n:=min fr.length to.length) rfl rfl rfl (by omega) (by omega) (by omega);have c2:=j86 l fr to s (by omega) (by omega) hf ht hs;have c3:∀q' y',eM (fr.take (min fr.length to.length)).reverse (to.take (min fr.length to.length)).reverse l q' (aU s)→bG ((fr.take (min fr.length to.length)).reverse++l) ((to.take (min fr.length to.length)).reverse++q') s y'→
   VC kd5 30 [abW q' y',abW (bU (cR (l,s)++to) (aF fr to) [] (l,s) w0).1.1 (bU (cR (l,s)++to) (aF fr to) [] (l,s) w0).1.2] [] fun r h'=>r = .one (.d (.bool true))∧h'=[]:=by
  intro q' y' hb hr;have a1:=jT4 (by simp) hb hr;have a2:=j93 l fr to s;rw[show aF fr to=im (fr.take (min fr.length to.length)).reverse (to.take (min fr.length to.length)).reverse from funext (jc7 fr to)]at a2 ⊢;have a3:=jR5 a1 a2;have e1:=hb.1;have e2:=j84 _ _ _ _ hr;have b1:=zE9 (tk:=cR (l,s)++to) (sb:=im (fr.take (min fr.length to.length)).reverse (to.take (min fr.length to.length)).reverse) (l,s) w0 rfl;have b2:stn (bU (cR (l,s)++to) (im (fr.take (min fr.length to.length)).reverse (to.take (min fr.length to.length)).reverse) [] (l,s) w0).1.2≤stn s:=
   zE8 s ([]++l) (aY l.length w0) (by simp[aY,w0])
  have n1:cK y':=by
   obtain⟨p,_,h⟩:=a1;exact jc5 _ _ _ _ _ h hn
  have n2:cK (bU (cR (l,s)++to) (im (fr.take (min fr.length to.length)).reverse (to.take (min fr.length to.length)).reverse) [] (l,s) w0).1.2:=by
   obtain⟨p,_,h⟩:=a2;exact jc5 _ _ _ _ _ h hn
  simp only at b1;exact jX0 _ _ _ _ (by omega) (by omega) n1 (by omega) (by omega) n2 (jS5 a3)
 have c4:=jc3 l l' s s' (by omega) (by omega) (by omega) (by omega);have c5:=j82 l l' s s' (by omega) (by omega) hn (by omega) (by omega) hn';have c6:=jc3 l l s s (by omega) (by omega) (by omega) (by omega);rw[zB2]at c6;generalize eqB (dW ltN (l,s)) (dW ltN (l',s'))=B at c4 c5;generalize bU (cR (l,s)++to) (aF fr to) [] (l,s) w0=R at c2 c3;obtain⟨⟨r0,⟨r1,r2,r3,r4,r5⟩⟩,w1⟩:=R;obtain⟨s1,s2,s3,s4,s5⟩:=s;obtain⟨u1,u2,u3,u4,u5⟩:=s';simp only[abW,aA,ke5,ke8]at c1 c2 c4 c5 c6 ⊢;refine aS aR fn7 (by simp) ?_;show vwp kd5 0 vc7 _ [(0,.agg [.d (.sl (nums l)),.d (.sl (s1.map aD)),.d (.sl (s2.map aE)),.d (.sl (ke3 s3)),.d (.sl (ke2 s4)),.d (.sl (ke4 s5))]),(1,.agg [.d (.sl (nums l')),.d (.sl (u1.map aD)),.d (.sl (u2.map aE)),.d (.sl (ke3 u3)),.d (.sl (ke2 u4)),.d (.sl (ke4 u5))]),(2,.one (.d (.sl (nums fr)))),(3,.one (.d (.sl (nums to))))] [];conv in vc7=>cbv
 rw[aO];simp -implicitDefEqProofs only[oS.d,J1,J2,J6,↓reduceIte];refine bI [] (c1) rfl rfl rfl ?_;rintro _ _ ⟨⟨q',⟨y1,y2,y3,y4,y5⟩,rfl,hb,hr⟩,rfl⟩;refine⟨_,_,rfl,?_⟩;have c7:=c3 _ _ hb hr;simp only[abW,aA,ke5,ke8]at c7 ⊢;simp -implicitDefEqProofs only[oS.d,J1,J2,J6,↓reduceIte];refine aQ [] c2 rfl rfl rfl rfl ?_;simp -implicitDefEqProofs only[oS.d,J2];refine aQ [] c7 rfl rfl rfl rfl ?_;simp -implicitDefEqProofs only[oS.d,J1,J2,J6,↓reduceIte];refine aQ [] c4 rfl rfl rfl rfl ?_;simp -implicitDefEqProofs only[oS.d,J1,J2,J6,↓reduceIte];refine aQ [] c5 rfl rfl rfl rfl ?_;simp -implicitDefEqProofs only[oS.d,J1,J2,J6,↓reduceIte,reduceCtorEq];refine aQ [] c6 rfl rfl rfl rfl ?_;simp -implicitDefEqProofs only[oS.d,J2];refine aQ [] jd0 rfl rfl rfl rfl ?_;simp -implicitDefEqProofs only[oS.d,J2];apply aI [];rfl;rfl;exact⟨rfl,rfl⟩
end Go.Vt.Tryz
