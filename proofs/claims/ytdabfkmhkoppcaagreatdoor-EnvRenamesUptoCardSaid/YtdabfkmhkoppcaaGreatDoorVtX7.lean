import Derived.Test.YtdabfkmhkoppcaaGreatDoorVtX5
set_option linter.all false
set_option maxHeartbeats 4000000
set_option maxRecDepth 100000
open Int renaming natCast_nonneg→kd8,toNat_natCast→kd9
open List renaming append_nil→ki0,cons_append→kg6,getElem?_map→ke6,length_append→ke1,length_map→ke9,map_cons→ke5,map_nil→ke8,mem_append→kh1,mem_of_getElem?→kd7,nil_append→kh0,take_length→ki1
open Nat renaming lt_or_ge→kf3,zero_le→kg1
open Go.Proofs.Tryz renaming prog→kd5
open Go.Vt.aA renaming funs→ke2,sigs→ke4,subs→ke3
open Go.Vt renaming eR→J0,mkV→J1
open Nat renaming reduceBEq→J2,reduceLeDiff→J5,reduceAdd→J6
namespace Go.Vt.Tryz
open Go.Proofs Go.Vt.Al
def kB (vb vf:Nat) (Bd F:List Int) (XB XF:List (List D)) (X:List L):aB:=[.box [.own 1 vb Bd.length,.own 2 vf F.length],.arr false 1 vb (nums Bd++XB),.arr false 1 vf (nums F++XF),.box [.ptr 0 0],.box X]
theorem jY8 (vb vf:Nat) (Bd own F:List Int) (XB XF:List (List D)) (a0 a1 a2 a3 a4 a5:D) :
  VCD kd5 230 [.one (.ptr 5 0),.one (.ptr 6 0)] (kB vb vf (Bd++own) F XB XF [.d a0,.d a1,.d a2,.d a3,.d a4,.d a5]++[.box [.ptr 0 0],.box [.d (.int .i64 Bd.length)]]) fun h'=>h'=kB vb vf Bd F (nums own++XB) XF [.d a0,.d a1,.d a2,.d a3,.d a4,.d a5]++[.box [.ptr 0 0],.box [.d (.int .i64 Bd.length)]]:=by
 have e1:nums (Bd++own)++XB=nums Bd++(nums own++XB):=by simp[nums]
 simp only[kB,e1];refine zf7 aR zY6 (by kernel_rfl) (by simp) ?_;show vwp kd5 7 xW _ [(0,.one (.ptr 5 0)),(1,.one (.ptr 6 0))] _;conv in xW=>cbv
 have h1:Bd.length≤(Bd++own).length:=by simp
 rw[aO];simp -implicitDefEqProofs only[oS.d,J0,J1,J2,J5,J6,↓reduceIte,reduceCtorEq,h1,kd8,kd9];apply aI [0,1,2,3,4,5,6];rfl;rfl;rfl
theorem jY9 {g:FuncId} (a0 a1 a2 a3 a4 a5:D) (Bd own:List Int) (Q:Int→Prop) (c:Nat) (hB:Bd.length+own.length<1000000000)
  (hdo:∀(vb vf:Nat) (F:List Int) (XB XF:List (List D)),F.length+c<1000000000→VC kd5 g [.one (.ptr 3 0),.one (.ptr 4 0)] (kB vb vf (Bd++own) F XB XF [.d a0,.d a1,.d a2,.d a3,.d a4,.d a5]) fun r h'=>r = .tup []∧∃vb vf F' XB XF,h'=kB vb vf (Bd++own) F' XB XF [.d a0,.d a1,.d a2,.d a3,.d a4,.d a5]∧(∀n,n∈F'↔n∈F∨(Q n∧n∉Bd++own))∧Ln F F' c)
  (vb vf:Nat) (F:List Int) (XB XF:List (List D)) (hF:F.length+c<1000000000) :
  VC kd5 163 [.one (.ptr 0 0),.one (.d (.sl (nums own))),.one (.fn g [.ptr 3 0,.ptr 4 0])] (kB vb vf Bd F XB XF [.d a0,.d a1,.d a2,.d a3,.d a4,.d a5]) fun r h'=>r = .tup []∧∃vb vf F' XB XF,h'=kB vb vf Bd F' XB XF [.d a0,.d a1,.d a2,.d a3,.d a4,.d a5]∧(∀n,n∈F'↔n∈F∨((Q n∧n∉own)∧n∉Bd))∧Ln F F' c:=by
 have hdo:=hdo (vb+1) vf F [] XF hF;simp only[kB,ki0]at hdo ⊢;have hcap:(Bd.length+own.length)*8≤aM∧Bd.length+own.length≤aM:=by simp[aM];omega
 have htk:=oM Bd XB;have e1:nums Bd++nums own=nums (Bd++own):=by simp[nums]
 have hal:((nums own).all fun e=>e.length == 1)=true:=by simp[nums]
 have e2:Bd.length+own.length=(Bd++own).length:=by simp
 refine zf6 aR z64 (by simp) ?_;show vwp kd5 5 (nM yP (.ops yQ)) _ [(0,.one (.ptr 0 0)),(1,.one (.d (.sl (nums own)))),(2,.one (.fn g [.ptr 3 0,.ptr 4 0]))] _;simp only[yP,yQ,nM];rw[aO];simp -implicitDefEqProofs only[oS.d,J1,J2,J5,J6,↓reduceIte,reduceCtorEq,hcap,htk,hal,bW];refine⟨_,_,rfl,?_⟩;rw[e1,e2];show vwp kd5 7 yR _ _ _;unfold yR;rw[aO];simp -implicitDefEqProofs only[oS.d,J2];refine bI [0,1,2,3,4] hdo rfl rfl rfl ?_;rintro _ _ ⟨rfl,vb1,vf1,F1,XB1,XF1,rfl,h1,h2⟩;refine⟨_,_,rfl,?_⟩;simp -implicitDefEqProofs only[oS.d,J6,reduceCtorEq];refine⟨_,jY8 vb1 vf1 Bd own F1 XB1 XF1 a0 a1 a2 a3 a4 a5,?_⟩;rintro _ rfl;simp only[kB,kg6,kh0];apply aI [0,1,2,3,4];rfl;rfl;refine⟨rfl,vb1,vf1,F1,nums own++XB1,XF1,rfl,fun n=>?_,h2⟩;rw[h1 n];simp only[kh1,not_or];constructor
 ·rintro(a|⟨a,b,d⟩)
  ·exact .inl a
  ·exact .inr ⟨⟨a,d⟩,b⟩
 ·rintro(a|⟨⟨a,d⟩,b⟩)
  ·exact .inl a
  ·exact .inr ⟨a,b,d⟩
theorem jZ0 (vb vf:Nat) (Bd own F:List Int) (XB XF:List (List D)) (a0 a1 a2 a3 a4 a5 a6 a7 a8 a9 a10 a11:D) :
  VCD kd5 230 [.one (.ptr 5 0),.one (.ptr 6 0)] (kB vb vf (Bd++own) F XB XF [.d a0,.d a1,.d a2,.d a3,.d a4,.d a5,.d a6,.d a7,.d a8,.d a9,.d a10,.d a11]++[.box [.ptr 0 0],.box [.d (.int .i64 Bd.length)]]) fun h'=>h'=kB vb vf Bd F (nums own++XB) XF [.d a0,.d a1,.d a2,.d a3,.d a4,.d a5,.d a6,.d a7,.d a8,.d a9,.d a10,.d a11]++[.box [.ptr 0 0],.box [.d (.int .i64 Bd.length)]]:=by
 have e1:nums (Bd++own)++XB=nums Bd++(nums own++XB):=by simp[nums]
 simp only[kB,e1];refine zf7 aR zY6 (by kernel_rfl) (by simp) ?_;show vwp kd5 7 xW _ [(0,.one (.ptr 5 0)),(1,.one (.ptr 6 0))] _;conv in xW=>cbv
 have h1:Bd.length≤(Bd++own).length:=by simp
 rw[aO];simp -implicitDefEqProofs only[oS.d,J0,J1,J2,J5,J6,↓reduceIte,reduceCtorEq,h1,kd8,kd9];apply aI [0,1,2,3,4,5,6];rfl;rfl;rfl
theorem jZ1 {g:FuncId} (a0 a1 a2 a3 a4 a5 a6 a7 a8 a9 a10 a11:D) (Bd own:List Int) (Q:Int→Prop) (c:Nat) (hB:Bd.length+own.length<1000000000)
  (hdo:∀(vb vf:Nat) (F:List Int) (XB XF:List (List D)),F.length+c<1000000000→VC kd5 g [.one (.ptr 3 0),.one (.ptr 4 0)] (kB vb vf (Bd++own) F XB XF [.d a0,.d a1,.d a2,.d a3,.d a4,.d a5,.d a6,.d a7,.d a8,.d a9,.d a10,.d a11]) fun r h'=>r = .tup []∧∃vb vf F' XB XF,h'=kB vb vf (Bd++own) F' XB XF [.d a0,.d a1,.d a2,.d a3,.d a4,.d a5,.d a6,.d a7,.d a8,.d a9,.d a10,.d a11]∧(∀n,n∈F'↔n∈F∨(Q n∧n∉Bd++own))∧Ln F F' c)
  (vb vf:Nat) (F:List Int) (XB XF:List (List D)) (hF:F.length+c<1000000000) :
  VC kd5 163 [.one (.ptr 0 0),.one (.d (.sl (nums own))),.one (.fn g [.ptr 3 0,.ptr 4 0])] (kB vb vf Bd F XB XF [.d a0,.d a1,.d a2,.d a3,.d a4,.d a5,.d a6,.d a7,.d a8,.d a9,.d a10,.d a11]) fun r h'=>r = .tup []∧∃vb vf F' XB XF,h'=kB vb vf Bd F' XB XF [.d a0,.d a1,.d a2,.d a3,.d a4,.d a5,.d a6,.d a7,.d a8,.d a9,.d a10,.d a11]∧(∀n,n∈F'↔n∈F∨((Q n∧n∉own)∧n∉Bd))∧Ln F F' c:=by
 have hdo:=hdo (vb+1) vf F [] XF hF;simp only[kB,ki0]at hdo ⊢;have hcap:(Bd.length+own.length)*8≤aM∧Bd.length+own.length≤aM:=by simp[aM];omega
 have htk:=oM Bd XB;have e1:nums Bd++nums own=nums (Bd++own):=by simp[nums]
 have hal:((nums own).all fun e=>e.length == 1)=true:=by simp[nums]
 have e2:Bd.length+own.length=(Bd++own).length:=by simp
 refine zf6 aR z64 (by simp) ?_;show vwp kd5 5 (nM yP (.ops yQ)) _ [(0,.one (.ptr 0 0)),(1,.one (.d (.sl (nums own)))),(2,.one (.fn g [.ptr 3 0,.ptr 4 0]))] _;simp only[yP,yQ,nM];rw[aO];simp -implicitDefEqProofs only[oS.d,J1,J2,J5,J6,↓reduceIte,reduceCtorEq,hcap,htk,hal,bW];refine⟨_,_,rfl,?_⟩;rw[e1,e2];show vwp kd5 7 yR _ _ _;unfold yR;rw[aO];simp -implicitDefEqProofs only[oS.d,J2];refine bI [0,1,2,3,4] hdo rfl rfl rfl ?_;rintro _ _ ⟨rfl,vb1,vf1,F1,XB1,XF1,rfl,h1,h2⟩;refine⟨_,_,rfl,?_⟩;simp -implicitDefEqProofs only[oS.d,J6,reduceCtorEq];refine⟨_,jZ0 vb1 vf1 Bd own F1 XB1 XF1 a0 a1 a2 a3 a4 a5 a6 a7 a8 a9 a10 a11,?_⟩;rintro _ rfl;simp only[kB,kg6,kh0];apply aI [0,1,2,3,4];rfl;rfl;refine⟨rfl,vb1,vf1,F1,nums own++XB1,XF1,rfl,fun n=>?_,h2⟩;rw[h1 n];simp only[kh1,not_or];constructor
 ·rintro(a|⟨a,b,d⟩)
  ·exact .inl a
  ·exact .inr ⟨⟨a,d⟩,b⟩
 ·rintro(a|⟨⟨a,d⟩,b⟩)
  ·exact .inl a
  ·exact .inr ⟨a,b,d⟩
def SW (x:Stx) (Bd:List Int):Prop:=∀(vb vf:Nat) (F:List Int) (XB XF:List (List D)),F.length+stn x<1000000000→VC kd5 147 [.one (.ptr 0 0),stW x] (kH vb vf Bd F XB XF) fun r h'=>r = .tup []∧Wk Bd F (aU x) (stn x) h'
theorem zf8 {y:Stx} {q Bd:List Int} (H:SW y (Bd++q)) (hB:Bd.length+q.length<1000000000) (vb vf:Nat) (F:List Int) (XB XF:List (List D)) (hF:F.length+stn y<1000000000) :
  VC kd5 110 [.one (.ptr 0 0),abW q y] (kH vb vf Bd F XB XF) fun r h'=>r = .tup []∧Wk Bd F (fun n=>aU y n∧n∉q) (stn y) h':=by
 have hQe:∃Q:Int→Prop,Q=aU y:=⟨_,rfl⟩;obtain⟨Q,hQ⟩:=hQe;have hce:∃c:Nat,c=stn y:=⟨_,rfl⟩;obtain⟨Qc,hQc⟩:=hce;unfold SW at H;rw[←hQ,←hQc]at H ⊢;rw[←hQc]at hF;obtain⟨y1,y2,y3,y4,y5⟩:=y;have hdo:∀(vb vf:Nat) (F:List Int) (XB XF:List (List D)),F.length+Qc<1000000000→VC kd5 164 [.one (.ptr 3 0),.one (.ptr 4 0)] (kB vb vf (Bd++q) F XB XF [.d (.sl (nums q)),.d (.sl (y1.map aD)),.d (.sl (y2.map aE)),.d (.sl (ke3 y3)),.d (.sl (ke2 y4)),.d (.sl (ke4 y5))]) fun r h'=>r = .tup []∧∃vb vf F' XB XF,h'=kB vb vf (Bd++q) F' XB XF [.d (.sl (nums q)),.d (.sl (y1.map aD)),.d (.sl (y2.map aE)),.d (.sl (ke3 y3)),.d (.sl (ke2 y4)),.d (.sl (ke4 y5))]∧(∀n,n∈F'↔n∈F∨(Q n∧n∉Bd++q))∧Ln F F' Qc:=by
  intro vb vf F XB XF hF;have h1:=H vb vf F XB XF hF;simp only[stW,aA,ke5,ke8,kH,kB]at h1 ⊢;refine aS aR jE6 (by simp) ?_;show vwp kd5 5 zv2 _ [(0,.one (.ptr 3 0)),(1,.one (.ptr 4 0))] [.box [.own 1 vb (Bd++q).length,.own 2 vf F.length],.arr false 1 vb (nums (Bd++q)++XB),.arr false 1 vf (nums F++XF),.box [.ptr 0 0],.box [.d (.sl (nums q)),.d (.sl (y1.map aD)),.d (.sl (y2.map aE)),.d (.sl (ke3 y3)),.d (.sl (ke2 y4)),.d (.sl (ke4 y5))]];conv in zv2=>cbv
  rw[aO];simp -implicitDefEqProofs only[oS.d,J1,J2,J5,J6,↓reduceIte,reduceCtorEq];refine bI [0,1,2] h1 rfl rfl rfl ?_;rintro _ _ ⟨rfl,v3,X3,v4,F4,X4,rfl,h2,h3⟩;simp only[kH];refine⟨_,_,rfl,?_⟩;simp -implicitDefEqProofs only[oS.d,J6];apply aI [0,1,2,3,4];rfl;rfl;exact⟨rfl,v3,v4,F4,X3,X4,rfl,h2,h3⟩
 have hu:=jY9 (g:=164) (.sl (nums q)) (.sl (y1.map aD)) (.sl (y2.map aE)) (.sl (ke3 y3)) (.sl (ke2 y4)) (.sl (ke4 y5)) Bd q Q Qc hB hdo vb vf F XB XF hF;simp only[abW,aA,ke5,ke8,kH,kB]at hu ⊢;refine aS aR jC3 (by simp) ?_;show vwp kd5 3 zs9 _ [(0,.one (.ptr 0 0)),(1,.agg [.d (.sl (nums q)),.d (.sl (y1.map aD)),.d (.sl (y2.map aE)),.d (.sl (ke3 y3)),.d (.sl (ke2 y4)),.d (.sl (ke4 y5))])] [.box [.own 1 vb Bd.length,.own 2 vf F.length],.arr false 1 vb (nums Bd++XB),.arr false 1 vf (nums F++XF)];conv in zs9=>cbv
 rw[aO];simp -implicitDefEqProofs only[oS.d,J1,J2,J5,J6,↓reduceIte,reduceCtorEq];refine bI [0,1,2,3,4] hu rfl rfl rfl ?_;rintro _ _ ⟨rfl,v3,v4,F4,X3,X4,rfl,h2,h3⟩;refine⟨_,_,rfl,?_⟩;simp -implicitDefEqProofs only[oS.d,J6];apply aI [0,1,2];rfl;rfl;exact⟨rfl,v3,X3,v4,F4,X4,rfl,h2,h3⟩
theorem jZ2 {x y:Stx} {p q Bd:List Int} (Hx:SW x (Bd++p)) (Hy:SW y ((Bd++p)++q)) (hB:Bd.length+p.length+q.length<1000000000) (vb vf:Nat) (F:List Int) (XB XF:List (List D)) (hF:F.length+stn x+stn y<1000000000) :
  VC kd5 198 [.one (.ptr 0 0),.agg (.d (.sl (nums p))::(aA x).map .d++.d (.sl (nums q))::(aA y).map .d)] (kH vb vf Bd F XB XF) fun r h'=>r = .tup []∧Wk Bd F (fun n=>n∉p∧(aU x n∨(n∉q∧aU y n))) (stn x+stn y) h':=by
 have Hr:=fun vb vf F XB XF hF=>zf8 Hy (by simp;omega) vb vf F XB XF hF;unfold SW at Hx;have hQe:∃Q:Int→Prop,Q=aU x:=⟨_,rfl⟩;obtain⟨R,hR⟩:=hQe;have hce:∃c:Nat,c=stn x:=⟨_,rfl⟩;obtain⟨Rc,hRc⟩:=hce;have hQe:∃Q:Int→Prop,Q=aU y:=⟨_,rfl⟩;obtain⟨Q,hQ⟩:=hQe;have hce:∃c:Nat,c=stn y:=⟨_,rfl⟩;obtain⟨Qc,hQc⟩:=hce;rw[←hR,←hRc]at Hx;rw[←hQ,←hQc]at Hr;rw[←hQ,←hQc,←hR,←hRc];rw[←hQc,←hRc]at hF;clear Hy;obtain⟨y1,y2,y3,y4,y5⟩:=y;obtain⟨x1,x2,x3,x4,x5⟩:=x;have hdo:∀(vb vf:Nat) (F:List Int) (XB XF:List (List D)),F.length+(Rc+Qc)<1000000000→VC kd5 251 [.one (.ptr 3 0),.one (.ptr 4 0)] (kB vb vf (Bd++p) F XB XF [.d (.sl (nums p)),.d (.sl (x1.map aD)),.d (.sl (x2.map aE)),.d (.sl (ke3 x3)),.d (.sl (ke2 x4)),.d (.sl (ke4 x5)),.d (.sl (nums q)),.d (.sl (y1.map aD)),.d (.sl (y2.map aE)),.d (.sl (ke3 y3)),.d (.sl (ke2 y4)),.d (.sl (ke4 y5))]) fun r h'=>r = .tup []∧∃vb vf F' XB XF,h'=kB vb vf (Bd++p) F' XB XF [.d (.sl (nums p)),.d (.sl (x1.map aD)),.d (.sl (x2.map aE)),.d (.sl (ke3 x3)),.d (.sl (ke2 x4)),.d (.sl (ke4 x5)),.d (.sl (nums q)),.d (.sl (y1.map aD)),.d (.sl (y2.map aE)),.d (.sl (ke3 y3)),.d (.sl (ke2 y4)),.d (.sl (ke4 y5))]∧(∀n,n∈F'↔n∈F∨((R n∨(Q n∧n∉q))∧n∉Bd++p))∧Ln F F' (Rc+Qc):=by
  intro vb vf F XB XF hF;have h1:=Hx vb vf F XB XF (by omega);simp only[stW,abW,aA,ke5,ke8,kH,kB]at h1 Hr ⊢;refine aS aR jI3 (by simp) ?_;show vwp kd5 5 zz0 _ [(0,.one (.ptr 3 0)),(1,.one (.ptr 4 0))] [.box [.own 1 vb (Bd++p).length,.own 2 vf F.length],.arr false 1 vb (nums (Bd++p)++XB),.arr false 1 vf (nums F++XF),.box [.ptr 0 0],.box [.d (.sl (nums p)),.d (.sl (x1.map aD)),.d (.sl (x2.map aE)),.d (.sl (ke3 x3)),.d (.sl (ke2 x4)),.d (.sl (ke4 x5)),.d (.sl (nums q)),.d (.sl (y1.map aD)),.d (.sl (y2.map aE)),.d (.sl (ke3 y3)),.d (.sl (ke2 y4)),.d (.sl (ke4 y5))]];conv in zz0=>cbv
  rw[aO];simp -implicitDefEqProofs only[oS.d,J1,J2,J5,J6,↓reduceIte,reduceCtorEq];refine bI [0,1,2] h1 rfl rfl rfl ?_;rintro _ _ ⟨rfl,v3,X3,v4,F4,X4,rfl,h2,h3⟩;simp only[kH];refine⟨_,_,rfl,?_⟩;simp -implicitDefEqProofs only[oS.d,J1,J2,J5,J6,↓reduceIte,reduceCtorEq];refine bI [0,1,2] (Hr v3 v4 F4 X3 X4 (by have:=h3.1;omega)) rfl rfl rfl ?_;rintro _ _ ⟨rfl,v5,X5,v6,F6,X6,rfl,h4,h5⟩;simp only[kH];refine⟨_,_,rfl,?_⟩;simp -implicitDefEqProofs only[oS.d,J6];apply aI [0,1,2,3,4];rfl;rfl;exact⟨rfl,v5,v6,F6,X5,X6,rfl,Wk.more (P:=R) (Q:=fun n=>Q n∧n∉q) (R:=fun n=>R n∨(Q n∧n∉q)) h2 h4 (fun m=>Iff.rfl),h3.trans h5⟩
 have hu:=jZ1 (g:=251) (.sl (nums p)) (.sl (x1.map aD)) (.sl (x2.map aE)) (.sl (ke3 x3)) (.sl (ke2 x4)) (.sl (ke4 x5)) (.sl (nums q)) (.sl (y1.map aD)) (.sl (y2.map aE)) (.sl (ke3 y3)) (.sl (ke2 y4)) (.sl (ke4 y5)) Bd p (fun n=>R n∨(Q n∧n∉q)) (Rc+Qc) (by omega) hdo vb vf F XB XF (by omega);simp only[aA,ke5,ke8,kg6,kh0,kH,kB]at hu ⊢;refine aS aR jF6 (by simp) ?_;show vwp kd5 3 zw3 _ [(0,.one (.ptr 0 0)),(1,.agg [.d (.sl (nums p)),.d (.sl (x1.map aD)),.d (.sl (x2.map aE)),.d (.sl (ke3 x3)),.d (.sl (ke2 x4)),.d (.sl (ke4 x5)),.d (.sl (nums q)),.d (.sl (y1.map aD)),.d (.sl (y2.map aE)),.d (.sl (ke3 y3)),.d (.sl (ke2 y4)),.d (.sl (ke4 y5))])] [.box [.own 1 vb Bd.length,.own 2 vf F.length],.arr false 1 vb (nums Bd++XB),.arr false 1 vf (nums F++XF)];conv in zw3=>cbv
 rw[aO];simp -implicitDefEqProofs only[oS.d,J1,J2,J5,J6,↓reduceIte,reduceCtorEq];refine bI [0,1,2,3,4] hu rfl rfl rfl ?_;rintro _ _ ⟨rfl,v3,v4,F4,X3,X4,rfl,h2,h3⟩;refine⟨_,_,rfl,?_⟩;simp -implicitDefEqProofs only[oS.d,J6];apply aI [0,1,2];rfl;rfl;refine⟨rfl,v3,X3,v4,F4,X4,rfl,fun m=>?_,h3⟩;rw[h2 m];constructor
 ·rintro(a|⟨⟨a|⟨a,b⟩,d⟩,e⟩)
  ·exact .inl a
  ·exact .inr ⟨⟨d,.inl a⟩,e⟩
  ·exact .inr ⟨⟨d,.inr ⟨b,a⟩⟩,e⟩
 ·rintro(a|⟨⟨d,a|⟨b,a⟩⟩,e⟩)
  ·exact .inl a
  ·exact .inr ⟨⟨.inl a,d⟩,e⟩
  ·exact .inr ⟨⟨.inr ⟨a,b⟩,d⟩,e⟩
theorem yD {m:Int}:∀{l:List (ByteArray×Stx)},aU.goS l m↔∃a∈l,aU a.2 m
 |[]=>by simp[aU.goS]
 |(s,x)::r=>by simp[aU.goS,yD (l:=r)]
theorem yE {m:Int}:∀{l:List (ByteArray×List Int×Stx×List Int×Stx)},aU.goF l m↔∃a∈l,(m∉a.2.1∧(aU a.2.2.1 m∨(m∉a.2.2.2.1∧aU a.2.2.2.2 m)))
 |[]=>by simp[aU.goF]
 |(s,p,x,q,y)::r=>by simp[aU.goF,yE (l:=r)]
theorem yF {m:Int}:∀{l:List (ByteArray×List Int×Stx)},aU.goG l m↔∃a∈l,(m∉a.2.1∧aU a.2.2 m)
 |[]=>by simp[aU.goG]
 |(s,q,y)::r=>by simp[aU.goG,yF (l:=r)]
theorem zf9:∀(x:Stx) (Bd:List Int),stn x<100000000→Bd.length+stn x<1000000000→SW x Bd:=by
 intro x;induction x using Stx.ind with
 |h x1 x2 x3 x4 x5 i3 i4 i5=>
 intro Bd hs hB vb vf F XB XF hF;have hsz:=xZ (x:=.mk x1 x2 x3 x4 x5) (Nat.le_of_lt hs);simp only[Stx.subs,Stx.vals,Stx.types,Stx.funs,Stx.sigs]at hsz;obtain⟨z3,z2,z1,z4,z5⟩:=hsz;simp only[stn,oD,oE,oF]at hs hB hF;have l3:=gT x3;have l4:=iN x4;have l5:=iO x5;have fv:∀m,aU (.mk x1 x2 x3 x4 x5) m↔((((∃a∈x1,oG a m)∨(∃a∈x2,cB a.s.t m))∨(∃a∈x3,aU a.2 m))∨(∃a∈x4,(m∉a.2.1∧(aU a.2.2.1 m∨(m∉a.2.2.2.1∧aU a.2.2.2.2 m)))))∨(∃a∈x5,(m∉a.2.1∧aU a.2.2 m)):=fun m=>by
  simp only[aU,yD,yE,yF,or_assoc]
 have hte:∃c:Nat,c=stn (.mk x1 x2 x3 x4 x5):=⟨_,rfl⟩;obtain⟨sc,hsc⟩:=hte;have hfe:∃Q:Int→Prop,Q=aU (.mk x1 x2 x3 x4 x5):=⟨_,rfl⟩;obtain⟨SQ,hSQ⟩:=hfe;rw[←hsc,←hSQ];simp only[←hSQ]at fv;clear hSQ;simp only[stn,oD,oE,oF]at hsc;simp only[stW,aA,ke5,ke8,kH];refine aS aR jD4 (by simp) ?_;show vwp kd5 3 zu0 _ [(0,.one (.ptr 0 0)),(1,.agg [.d (.sl (x1.map aD)),.d (.sl (x2.map aE)),.d (.sl (ke3 x3)),.d (.sl (ke2 x4)),.d (.sl (ke4 x5))])] [.box [.own 1 vb Bd.length,.own 2 vf F.length],.arr false 1 vb (nums Bd++XB),.arr false 1 vf (nums F++XF)];conv in zu0=>cbv
 rw[aO];simp -implicitDefEqProofs only[oS.d,J1,J2,J5,J6,↓reduceIte,reduceCtorEq,ke9];refine bC (α:=Nat×(Nat×List (List D))×Nat×List Int×List (List D)) (fun x=>[(17,.one (.d (.int .i64 x.1))),(16,.one (.d (.int .i64 x1.length))),(15,.one (.d (.sl (x1.map aD)))),(3,.one (.ptr 3 0)),(0,.one (.ptr 0 0))]) (fun x=>[.box [.own 1 x.2.1.1 Bd.length,.own 2 x.2.2.1 x.2.2.2.1.length],.arr false 1 x.2.1.1 (nums Bd++x.2.1.2),.arr false 1 x.2.2.1 (nums x.2.2.2.1++x.2.2.2.2),.box [.d (.sl (x1.map aD)),.d (.sl (x2.map aE)),.d (.sl (ke3 x3)),.d (.sl (ke2 x4)),.d (.sl (ke4 x5))]])
  (fun x=>x.1≤x1.length∧(∀m,m∈x.2.2.2.1↔m∈F∨((∃a∈x1.take x.1,oG a m)∧m∉Bd))∧Ln F x.2.2.2.1 (aT cJ (x1.take x.1))) (fun x=>x1.length-x.1) (0,(vb,XB),vf,F,XF)
  (aL [0,1,2,3] rfl rfl rfl rfl) ⟨kg1 _,fun m=>by simp,kb8⟩ ?_
 rintro⟨i,⟨v0,X0⟩,w0,F0,Y0⟩ ⟨hi,g0,b0⟩;dsimp only at hi g0 b0 ⊢;have c0:=b0.1;have hw:=bJ (a:=i) rfl (by omega);rcases kf3 i x1.length with h5|h5
 ·have hlt:((i:Int)<(x1.length:Int))=True:=by simp;omega
  obtain⟨u,hu⟩:=bA h5;have hsu:=jH (f:=cJ) hu;have hle:=iY (f:=cJ) x1 (i+1);have hQ:=fun m=>oN (p:=fun a=>oG a m) hu;have hmem:=kd7 hu;have hmu:=cY (f:=cJ) hmem;have hcu:cJ u=1+tyn u.t+aT ctn u.cts:=rfl;have t1:=fun vb vf F XB XF hF=>zF4 vb vf Bd F XB XF u.t (by omega) (by omega) hF;have t2:=fun vb vf F XB XF hF=>jY6 vb vf Bd F XB XF u.cts (by omega) (by omega) hF;have e1:∃P:Int→Prop,P=oG u:=⟨_,rfl⟩;obtain⟨P,hP⟩:=e1;have hPu:∀m,P m↔cB u.t m∨∃c∈u.cts,cB.go c.args m:=fun m=>by rw[hP];rfl
  simp only[←hP]at hQ;have e2:∃c:Nat,c=tyn u.t:=⟨_,rfl⟩;obtain⟨tc,htc⟩:=e2;have e3:∃P:Int→Prop,P=cB u.t:=⟨_,rfl⟩;obtain⟨P1,hP1⟩:=e3;simp only[←htc,←hP1]at t1;simp only[←hP1]at hPu;rw[←htc]at hcu;have hg:(x1.map aD)[i]?=some (aD u):=by rw[ke6,hu];rfl
  simp only[kH]at t1 t2;rw[hcu]at hsu hmu;clear hP hcu hu hmem;obtain⟨un,⟨uk,ui,ul⟩,uc⟩:=u;simp only[tyV,aG,aD,ke5,ke8,kg6,kh0]at t1 hg;dsimp only at t2 hPu hsu hmu;simp -implicitDefEqProofs only[oS.d,J1,J2,J5,J6,↓reduceIte,reduceCtorEq,hlt,hg,kd8,kd9];refine bI [0,1,2] (t1 v0 w0 F0 X0 Y0 (by omega)) rfl rfl rfl ?_;rintro _ _ ⟨rfl,v6,X6,w6,F6,Y6,rfl,g6,b6⟩;have c6:=b6.1;simp only[kH];refine⟨_,_,rfl,?_⟩;simp -implicitDefEqProofs only[oS.d,J1,J2,J5,J6,↓reduceIte,reduceCtorEq];refine bI [0,1,2] (t2 v6 w6 F6 X6 Y6 (by omega)) rfl rfl rfl ?_;rintro _ _ ⟨rfl,v7,X7,w7,F7,Y7,rfl,g7,b7⟩;have c7:=b7.1;simp only[kH];refine⟨_,_,rfl,?_⟩;have gg:=Wk.more g6 g7 hPu;simp -implicitDefEqProofs only[oS.d,J2,J6,↓reduceIte,hw];refine⟨(i+1,(v7,X7),w7,F7,Y7),⟨by show i+1≤x1.length;omega,fun m=>?_,(b0.trans (b6.trans b7)).mono (by show _≤aT cJ (x1.take (i+1));omega)⟩,by show x1.length-(i+1)<x1.length-i;omega,?_⟩
  ·exact Wk.more g0 gg hQ m
  ·exact(aL [0,1,2,3] rfl rfl rfl rfl)
 have hlt:((i:Int)<(x1.length:Int))=False:=by simp;omega
 have hie:i=x1.length:=by omega
 subst hie;rw[ki1]at g0 b0;have c0:=b0.1;clear hw h5 hi;simp -implicitDefEqProofs only[oS.d,J1,J2,J5,J6,↓reduceIte,reduceCtorEq,hlt,ke9];clear hlt;have G0:=g0;refine bC (α:=Nat×(Nat×List (List D))×Nat×List Int×List (List D)) (fun x=>[(33,.one (.d (.int .i64 x.1))),(32,.one (.d (.int .i64 x2.length))),(31,.one (.d (.sl (x2.map aE)))),(3,.one (.ptr 3 0)),(0,.one (.ptr 0 0))]) (fun x=>[.box [.own 1 x.2.1.1 Bd.length,.own 2 x.2.2.1 x.2.2.2.1.length],.arr false 1 x.2.1.1 (nums Bd++x.2.1.2),.arr false 1 x.2.2.1 (nums x.2.2.2.1++x.2.2.2.2),.box [.d (.sl (x1.map aD)),.d (.sl (x2.map aE)),.d (.sl (ke3 x3)),.d (.sl (ke2 x4)),.d (.sl (ke4 x5))]])
  (fun x=>x.1≤x2.length∧(∀m,m∈x.2.2.2.1↔m∈F0∨((∃a∈x2.take x.1,cB a.s.t m)∧m∉Bd))∧Ln F0 x.2.2.2.1 (aT cO (x2.take x.1))) (fun x=>x2.length-x.1) (0,(v0,X0),w0,F0,Y0)
  (aL [0,1,2,3] rfl rfl rfl rfl) ⟨kg1 _,fun m=>by simp,kb8⟩ ?_
 rintro⟨i,⟨v1,X1⟩,w1,F1,Y1⟩ ⟨hi,g1,b1⟩;dsimp only at hi g1 b1 ⊢;have c1:=b1.1;have hw:=bJ (a:=i) rfl (by omega);rcases kf3 i x2.length with h5|h5
 ·have hlt:((i:Int)<(x2.length:Int))=True:=by simp;omega
  obtain⟨u,hu⟩:=bA h5;have hsu:=jH (f:=cO) hu;have hle:=iY (f:=cO) x2 (i+1);have hQ:=fun m=>oN (p:=fun a=>cB a.s.t m) hu;have hmem:=kd7 hu;have hmu:=cY (f:=cO) hmem;have hcu:cO u=1+tyn u.s.t:=rfl;have t1:=zF4 v1 w1 Bd F1 X1 Y1 u.s.t (by omega) (by omega) (by omega);have e1:∃P:Int→Prop,P=cB u.s.t:=⟨_,rfl⟩;obtain⟨P,hP⟩:=e1;simp only[←hP]at hQ t1;have e2:∃c:Nat,c=tyn u.s.t:=⟨_,rfl⟩;obtain⟨tc,htc⟩:=e2;simp only[←htc]at t1;rw[←htc]at hcu;have hg:(x2.map aE)[i]?=some (aE u):=by rw[ke6,hu];rfl
  clear hP hu hmem;obtain⟨un,ug,⟨uk,ui,ul⟩⟩:=u;simp only[tyV,aG,aE,gP,ke5,ke8,kH]at t1 hg;simp -implicitDefEqProofs only[oS.d,J1,J2,J5,J6,↓reduceIte,reduceCtorEq,hlt,hg,kd8,kd9];refine bI [0,1,2] t1 rfl rfl rfl ?_;rintro _ _ ⟨rfl,v6,X6,w6,F6,Y6,rfl,gg,b6⟩;have c6:=b6.1;simp only[kH];refine⟨_,_,rfl,?_⟩;simp -implicitDefEqProofs only[oS.d,J2,J6,↓reduceIte,hw];refine⟨(i+1,(v6,X6),w6,F6,Y6),⟨by show i+1≤x2.length;omega,fun m=>?_,(b1.trans b6).mono (by show _≤aT cO (x2.take (i+1));omega)⟩,by show x2.length-(i+1)<x2.length-i;omega,?_⟩
  ·exact Wk.more g1 gg hQ m
  ·exact(aL [0,1,2,3] rfl rfl rfl rfl)
 have hlt:((i:Int)<(x2.length:Int))=False:=by simp;omega
 have hie:i=x2.length:=by omega
 subst hie;rw[ki1]at g1 b1;have c1:=b1.1;clear hw h5 hi;simp -implicitDefEqProofs only[oS.d,J1,J2,J5,J6,↓reduceIte,reduceCtorEq,hlt,l3];clear hlt;have G1:=Wk.more G0 g1 (fun m=>Iff.rfl);refine bC (α:=Nat×(Nat×List (List D))×Nat×List Int×List (List D)) (fun x=>[(46,.one (.d (.int .i64 x.1))),(45,.one (.d (.int .i64 x3.length))),(44,.one (.d (.sl (ke3 x3)))),(3,.one (.ptr 3 0)),(0,.one (.ptr 0 0))]) (fun x=>[.box [.own 1 x.2.1.1 Bd.length,.own 2 x.2.2.1 x.2.2.2.1.length],.arr false 1 x.2.1.1 (nums Bd++x.2.1.2),.arr false 1 x.2.2.1 (nums x.2.2.2.1++x.2.2.2.2),.box [.d (.sl (x1.map aD)),.d (.sl (x2.map aE)),.d (.sl (ke3 x3)),.d (.sl (ke2 x4)),.d (.sl (ke4 x5))]])
  (fun x=>x.1≤x3.length∧(∀m,m∈x.2.2.2.1↔m∈F1∨((∃a∈x3.take x.1,aU a.2 m)∧m∉Bd))∧Ln F1 x.2.2.2.1 (aT eB (x3.take x.1))) (fun x=>x3.length-x.1) (0,(v1,X1),w1,F1,Y1)
  (aL [0,1,2,3] rfl rfl rfl rfl) ⟨kg1 _,fun m=>by simp,kb8⟩ ?_
 rintro⟨i,⟨v2,X2⟩,w2,F2,Y2⟩ ⟨hi,g2,b2⟩;dsimp only at hi g2 b2 ⊢;have c2:=b2.1;have hw:=bJ (a:=i) rfl (by omega);rcases kf3 i x3.length with h5|h5
 ·have hlt:((i:Int)<(x3.length:Int))=True:=by simp;omega
  obtain⟨u,hu⟩:=bA h5;have hsu:=jH (f:=eB) hu;have hle:=iY (f:=eB) x3 (i+1);have hQ:=fun m=>oN (p:=fun a=>aU a.2 m) hu;have hmem:=kd7 hu;have hmu:=cY (f:=eB) hmem;have hcu:eB u=1+stn u.2:=rfl;have t1:=i3 u hmem Bd (by omega) (by omega) v2 w2 F2 X2 Y2 (by omega);have e1:∃P:Int→Prop,P=aU u.2:=⟨_,rfl⟩;obtain⟨P,hP⟩:=e1;simp only[←hP]at hQ t1;have e2:∃c:Nat,c=stn u.2:=⟨_,rfl⟩;obtain⟨tc,htc⟩:=e2;simp only[←htc]at t1;rw[←htc]at hcu;have hg:(ke3 x3)[i]?=some (bX u):=by rw[kI,ke6,hu];rfl
  clear hP hu hmem;obtain⟨un,⟨u1,u2,u3,u4,u5⟩⟩:=u;simp only[stW,aA,bX,ke5,ke8,kH]at t1 hg;simp -implicitDefEqProofs only[oS.d,J1,J2,J5,J6,↓reduceIte,reduceCtorEq,hlt,hg,kd8,kd9];refine bI [0,1,2] t1 rfl rfl rfl ?_;rintro _ _ ⟨rfl,v6,X6,w6,F6,Y6,rfl,gg,b6⟩;have c6:=b6.1;simp only[kH];refine⟨_,_,rfl,?_⟩;simp -implicitDefEqProofs only[oS.d,J2,J6,↓reduceIte,hw];refine⟨(i+1,(v6,X6),w6,F6,Y6),⟨by show i+1≤x3.length;omega,fun m=>?_,(b2.trans b6).mono (by show _≤aT eB (x3.take (i+1));omega)⟩,by show x3.length-(i+1)<x3.length-i;omega,?_⟩
  ·exact Wk.more g2 gg hQ m
  ·exact(aL [0,1,2,3] rfl rfl rfl rfl)
 have hlt:((i:Int)<(x3.length:Int))=False:=by simp;omega
 have hie:i=x3.length:=by omega
 subst hie;rw[ki1]at g2 b2;have c2:=b2.1;clear hw h5 hi;simp -implicitDefEqProofs only[oS.d,J1,J2,J5,J6,↓reduceIte,reduceCtorEq,hlt,l4];clear hlt;have G2:=Wk.more G1 g2 (fun m=>Iff.rfl);refine bC (α:=Nat×(Nat×List (List D))×Nat×List Int×List (List D)) (fun x=>[(58,.one (.d (.int .i64 x.1))),(57,.one (.d (.int .i64 x4.length))),(56,.one (.d (.sl (ke2 x4)))),(3,.one (.ptr 3 0)),(0,.one (.ptr 0 0))]) (fun x=>[.box [.own 1 x.2.1.1 Bd.length,.own 2 x.2.2.1 x.2.2.2.1.length],.arr false 1 x.2.1.1 (nums Bd++x.2.1.2),.arr false 1 x.2.2.1 (nums x.2.2.2.1++x.2.2.2.2),.box [.d (.sl (x1.map aD)),.d (.sl (x2.map aE)),.d (.sl (ke3 x3)),.d (.sl (ke2 x4)),.d (.sl (ke4 x5))]])
  (fun x=>x.1≤x4.length∧(∀m,m∈x.2.2.2.1↔m∈F2∨((∃a∈x4.take x.1,(m∉a.2.1∧(aU a.2.2.1 m∨(m∉a.2.2.2.1∧aU a.2.2.2.2 m))))∧m∉Bd))∧Ln F2 x.2.2.2.1 (aT dZ (x4.take x.1))) (fun x=>x4.length-x.1) (0,(v2,X2),w2,F2,Y2)
  (aL [0,1,2,3] rfl rfl rfl rfl) ⟨kg1 _,fun m=>by simp,kb8⟩ ?_
 rintro⟨i,⟨v3,X3⟩,w3,F3,Y3⟩ ⟨hi,g3,b3⟩;dsimp only at hi g3 b3 ⊢;have c3:=b3.1;have hw:=bJ (a:=i) rfl (by omega);rcases kf3 i x4.length with h5|h5
 ·have hlt:((i:Int)<(x4.length:Int))=True:=by simp;omega
  obtain⟨u,hu⟩:=bA h5;have hsu:=jH (f:=dZ) hu;have hle:=iY (f:=dZ) x4 (i+1);have hQ:=fun m=>oN (p:=fun a=>(m∉a.2.1∧(aU a.2.2.1 m∨(m∉a.2.2.2.1∧aU a.2.2.2.2 m)))) hu;have hmem:=kd7 hu;have hmu:=cY (f:=dZ) hmem;have hcu:=lK u;have s1:=(i4 u hmem).1 (Bd++u.2.1) (by omega) (by simp only[ke1];omega);have s2:=(i4 u hmem).2 ((Bd++u.2.1)++u.2.2.2.1) (by omega) (by simp only[ke1];omega);have t1:=jZ2 s1 s2 (by omega) v3 w3 F3 X3 Y3 (by omega);clear s1 s2;have e1:∃P:Int→Prop,P=fun m=>(m∉u.2.1∧(aU u.2.2.1 m∨(m∉u.2.2.2.1∧aU u.2.2.2.2 m))):=⟨_,rfl⟩;obtain⟨P,hP⟩:=e1;rw[←hP]at t1;have hQ2:∀m,(∃a∈x4.take (i+1),(m∉a.2.1∧(aU a.2.2.1 m∨(m∉a.2.2.2.1∧aU a.2.2.2.2 m))))↔(∃a∈x4.take i,(m∉a.2.1∧(aU a.2.2.1 m∨(m∉a.2.2.2.1∧aU a.2.2.2.2 m))))∨P m:=by rw[hP];exact hQ
  have e2:∃c:Nat,c=stn u.2.2.1+stn u.2.2.2.2:=⟨_,rfl⟩;obtain⟨tc,htc⟩:=e2;simp only[←htc]at t1;have hcu:tc<dZ u:=by omega
  have hg:(ke2 x4)[i]?=some (bT u):=by rw[iL,ke6,hu];rfl
  clear hP hu hmem htc hQ;obtain⟨un,up,⟨u1,u2,u3,u4,u5⟩,uq,⟨y1,y2,y3,y4,y5⟩⟩:=u;simp only[eU,aA,bT,ke5,ke8,kg6,kh0,kH]at t1 hg;simp -implicitDefEqProofs only[oS.d,J1,J2,J5,J6,↓reduceIte,reduceCtorEq,hlt,hg,kd8,kd9];refine bI [0,1,2] t1 rfl rfl rfl ?_;rintro _ _ ⟨rfl,v6,X6,w6,F6,Y6,rfl,gg,b6⟩;have c6:=b6.1;simp only[kH];refine⟨_,_,rfl,?_⟩;simp -implicitDefEqProofs only[oS.d,J2,J6,↓reduceIte,hw];refine⟨(i+1,(v6,X6),w6,F6,Y6),⟨by show i+1≤x4.length;omega,fun m=>?_,(b3.trans b6).mono (by show _≤aT dZ (x4.take (i+1));omega)⟩,by show x4.length-(i+1)<x4.length-i;omega,?_⟩
  ·exact Wk.more g3 gg hQ2 m
  ·exact(aL [0,1,2,3] rfl rfl rfl rfl)
 have hlt:((i:Int)<(x4.length:Int))=False:=by simp;omega
 have hie:i=x4.length:=by omega
 subst hie;rw[ki1]at g3 b3;have c3:=b3.1;clear hw h5 hi;simp -implicitDefEqProofs only[oS.d,J1,J2,J5,J6,↓reduceIte,reduceCtorEq,hlt,l5];clear hlt;have G3:=Wk.more G2 g3 (fun m=>Iff.rfl);refine bC (α:=Nat×(Nat×List (List D))×Nat×List Int×List (List D)) (fun x=>[(70,.one (.d (.int .i64 x.1))),(69,.one (.d (.int .i64 x5.length))),(68,.one (.d (.sl (ke4 x5)))),(3,.one (.ptr 3 0)),(0,.one (.ptr 0 0))]) (fun x=>[.box [.own 1 x.2.1.1 Bd.length,.own 2 x.2.2.1 x.2.2.2.1.length],.arr false 1 x.2.1.1 (nums Bd++x.2.1.2),.arr false 1 x.2.2.1 (nums x.2.2.2.1++x.2.2.2.2),.box [.d (.sl (x1.map aD)),.d (.sl (x2.map aE)),.d (.sl (ke3 x3)),.d (.sl (ke2 x4)),.d (.sl (ke4 x5))]])
  (fun x=>x.1≤x5.length∧(∀m,m∈x.2.2.2.1↔m∈F3∨((∃a∈x5.take x.1,(m∉a.2.1∧aU a.2.2 m))∧m∉Bd))∧Ln F3 x.2.2.2.1 (aT eD (x5.take x.1))) (fun x=>x5.length-x.1) (0,(v3,X3),w3,F3,Y3)
  (aL [0,1,2,3] rfl rfl rfl rfl) ⟨kg1 _,fun m=>by simp,kb8⟩ ?_
 rintro⟨i,⟨v4,X4⟩,w4,F4,Y4⟩ ⟨hi,g4,b4⟩;dsimp only at hi g4 b4 ⊢;have c4:=b4.1;have hw:=bJ (a:=i) rfl (by omega);rcases kf3 i x5.length with h5|h5
 ·have hlt:((i:Int)<(x5.length:Int))=True:=by simp;omega
  obtain⟨u,hu⟩:=bA h5;have hsu:=jH (f:=eD) hu;have hle:=iY (f:=eD) x5 (i+1);have hQ:=fun m=>oN (p:=fun a=>(m∉a.2.1∧aU a.2.2 m)) hu;have hmem:=kd7 hu;have hmu:=cY (f:=eD) hmem;have hcu:=nH u;have s1:=i5 u hmem (Bd++u.2.1) (by omega) (by simp only[ke1];omega);have t1:=zf8 s1 (by omega) v4 w4 F4 X4 Y4 (by omega);clear s1;have e1:∃P:Int→Prop,P=fun m=>(m∉u.2.1∧aU u.2.2 m):=⟨_,rfl⟩;obtain⟨P,hP⟩:=e1;have e4:(fun m=>aU u.2.2 m∧m∉u.2.1)=P:=by rw[hP];funext m;exact propext and_comm
  rw[e4]at t1;have hQ2:∀m,(∃a∈x5.take (i+1),(m∉a.2.1∧aU a.2.2 m))↔(∃a∈x5.take i,(m∉a.2.1∧aU a.2.2 m))∨P m:=by rw[hP];exact hQ
  have e2:∃c:Nat,c=stn u.2.2:=⟨_,rfl⟩;obtain⟨tc,htc⟩:=e2;simp only[←htc]at t1;have hcu:tc<eD u:=by omega
  have hg:(ke4 x5)[i]?=some (cA u):=by rw[iM,ke6,hu];rfl
  clear hP hu hmem htc hQ e4;obtain⟨un,uq,⟨u1,u2,u3,u4,u5⟩⟩:=u;simp only[abW,aA,cA,ke5,ke8,kH]at t1 hg;simp -implicitDefEqProofs only[oS.d,J1,J2,J5,J6,↓reduceIte,reduceCtorEq,hlt,hg,kd8,kd9];refine bI [0,1,2] t1 rfl rfl rfl ?_;rintro _ _ ⟨rfl,v6,X6,w6,F6,Y6,rfl,gg,b6⟩;have c6:=b6.1;simp only[kH];refine⟨_,_,rfl,?_⟩;simp -implicitDefEqProofs only[oS.d,J2,J6,↓reduceIte,hw];refine⟨(i+1,(v6,X6),w6,F6,Y6),⟨by show i+1≤x5.length;omega,fun m=>?_,(b4.trans b6).mono (by show _≤aT eD (x5.take (i+1));omega)⟩,by show x5.length-(i+1)<x5.length-i;omega,?_⟩
  ·exact Wk.more g4 gg hQ2 m
  ·exact(aL [0,1,2,3] rfl rfl rfl rfl)
 have hlt:((i:Int)<(x5.length:Int))=False:=by simp;omega
 have hie:i=x5.length:=by omega
 subst hie;rw[ki1]at g4 b4;have c4:=b4.1;clear hw h5 hi;simp -implicitDefEqProofs only[oS.d,J2,J6,↓reduceIte,hlt];clear hlt;have G4:=Wk.more G3 g4 (fun m=>Iff.rfl);apply aI [0,1,2];rfl;rfl;refine⟨rfl,v4,X4,w4,F4,Y4,rfl,fun m=>?_,(b0.trans (b1.trans (b2.trans (b3.trans b4)))).mono (by omega)⟩;rw[G4 m,fv m]
end Go.Vt.Tryz
