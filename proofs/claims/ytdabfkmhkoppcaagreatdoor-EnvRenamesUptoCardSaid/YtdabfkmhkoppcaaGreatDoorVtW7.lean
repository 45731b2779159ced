import Derived.Test.YtdabfkmhkoppcaaGreatDoorVtW1
import Derived.Test.YtdabfkmhkoppcaaGreatDoorVtA8
set_option linter.all false
set_option maxHeartbeats 4000000
set_option maxRecDepth 100000
open Int renaming le_trans→km0,natCast_nonneg→kd8,toNat_natCast→kd9
open List renaming append_assoc→kf1,cons_append→kg6,drop_of_length_le→kh2,foldl_cons→kq5,getElem?_eq_getElem→ke7,getElem?_map→ke6,length_cons→kf6,length_map→ke9,length_take→kg2,map_cons→ke5,map_nil→ke8,mem_cons→kg9,mem_of_getElem?→kd7,nil_append→kh0,reverse_append→ko2,reverse_cons→km4,reverse_reverse→ko4,set_append_right→kk5,take_add_one→ki7,take_length→ki1,take_of_length_le→ke0
open Nat renaming lt_or_ge→kf3,zero_le→kg1
open Option renaming toList_some→kk7
open Go.Proofs.Tryz renaming prog→kd5
open Go.Vt.aA renaming funs→ke2,sigs→ke4,subs→ke3
open Go.Vt.aG renaming encs→kf0
open Go.Vt renaming mkV→J1
open Nat renaming reduceBEq→J2,reduceLeDiff→J5,reduceAdd→J6,reduceMul→J7
namespace Go.Vt.Tryz
open Go.Proofs Go.Vt.Al
theorem jV3 (fr to tk:List Int) (hfr:fr.length<1000000000) (hto:to.length<1000000000) (htk:tk.length<1000000000) (s1:List Tym) (s2:List Vam) (s3:List (ByteArray×Stx)) (s4:List (ByteArray×FnE)) (s5:List cN) (hsm:stn (.mk s1 s2 s3 s4 s5)<90000000)
  (H3:∀x∈s3,pL fr to tk x.2) (H4:∀x∈s4,pL fr to tk x.2.2.1∧pL fr to tk x.2.2.2.2) (H5:∀x∈s5,pL fr to tk x.2.2):pL fr to tk (.mk s1 s2 s3 s4 s5):=by
 intro A w v J hn0 hA hf hz0 hb;simp only[stn,oD,oE,oF]at hsm hA hf;have hl1:=dV (f:=cJ) (fun t=>by unfold cJ;omega) s1;have hl2':=dV (f:=cO) (fun t=>by unfold cO;omega) s2;have hl3:=dV (f:=eB) (fun t=>by unfold eB;omega) s3;have hl4:=dV (f:=dZ) (fun t=>by unfold dZ;omega) s4;have hl5:=dV (f:=eD) (fun t=>by unfold eD;omega) s5;rw[sQ]at hb ⊢;have q1:=iP (f:=bY tk (aF fr to) A) (c:=cJ) (k:=A.length) s1 (fun x _ w _=>sR x w) w hn0;have hn1:=q1.1.trans hn0;have hz1:=km0 hz0 q1.2.1;generalize e1:aH (bY tk (aF fr to) A) s1 w=R1 at hb q1 hn1 hz1 ⊢;obtain⟨r1,w1⟩:=R1;simp only at hb q1 hn1 hz1 ⊢;have q2:=iP (f:=cH tk (aF fr to) A) (c:=cO) (k:=A.length) s2 (fun x _ w _=>sS x w) w1 hn1;have hn2:=q2.1.trans hn1;have hz2:=km0 hz1 q2.2.1;generalize e2:aH (cH tk (aF fr to) A) s2 w1=R2 at hb q2 hn2 hz2 ⊢;obtain⟨r2,w2⟩:=R2;simp only at hb q2 hn2 hz2 ⊢;have q3:=iP (f:=cT tk (aF fr to) A) (c:=eB) (k:=A.length) s3 (fun x _ w hw=>(jC x.2 A w hw).mono (by rw[nG];omega)) w2 hn2;have hn3:=q3.1.trans hn2;have hz3:=km0 hz2 q3.2.1;generalize e3:aH (cT tk (aF fr to) A) s3 w2=R3 at hb q3 hn3 hz3 ⊢;obtain⟨r3,w3⟩:=R3;simp only at hb q3 hn3 hz3 ⊢;have q4:=iP (f:=dB tk (aF fr to) A) (c:=dZ) (k:=A.length) s4 (fun x _ w hw=>(uZ x.2 w hw).mono (by rw[lK];omega)) w3 hn3;have hn4:=q4.1.trans hn3;have hz4:=km0 hz3 q4.2.1;generalize e4:aH (dB tk (aF fr to) A) s4 w3=R4 at hb q4 hn4 hz4 ⊢;obtain⟨r4,w4⟩:=R4;simp only at hb q4 hn4 hz4 ⊢;have q5:=iP (f:=dJ tk (aF fr to) A) (c:=eD) (k:=A.length) s5 (fun x _ w hw=>(oJ x.2 w hw).mono (by rw[nH];omega)) w4 hn4;have hn5:=q5.1.trans hn4;have hz5:=km0 hz4 q5.2.1;generalize e5:aH (dJ tk (aF fr to) A) s5 w4=R5 at hb q5 hn5 hz5 ⊢;obtain⟨r5,w5⟩:=R5;simp only at hb q5 hn5 hz5 ⊢;have a1:=q1.2.2;have a2:=q2.2.2;have a3:=q3.2.2;have a4:=q4.2.2;have a5:=q5.2.2;have m2:=q2.2.1;have m3:=q3.2.1;have m4:=q4.2.1;have m5:=q5.2.1;simp only[wb,wa,stW,aA,ke5,ke8];refine aS aR jD8 (by simp) ?_;show vwp kd5 3 zu4 _ [(0,.one (.ptr 0 0)),(1,.agg [.d (.sl (s1.map aD)),.d (.sl (s2.map aE)),.d (.sl (ke3 s3)),.d (.sl (ke2 s4)),.d (.sl (ke4 s5))])] [.box [.own 1 v A.length,.d (.sl (nums fr)),.d (.sl (nums to)),.d (.int .i64 w.next),.d (.sl (nums tk)),.own 2 (fv w.free) w.free.length],.arr false 2 v (rws A w.nums++J),.arr false 1 (fv w.free) (nums w.free)];conv in zu4=>cbv
 rw[aO];simp -implicitDefEqProofs only[oS.d,J2,J6,↓reduceIte];refine bC (α:=Nat×Nat×List (List D)) (fun x=>[(6,.one (.d (.int .i64 x.1))),(0,.one (.ptr 0 0)),(3,.one (.ptr 3 0)),(5,.one (.ptr 5 0)),(4,.one (.ptr 4 0))])
  (fun x=>[.box [.own 1 x.2.1 A.length,.d (.sl (nums fr)),.d (.sl (nums to)),.d (.int .i64 (aH (bY tk (aF fr to) A) (s1.take x.1) w).2.next),.d (.sl (nums tk)),.own 2 (fv ((aH (bY tk (aF fr to) A) (s1.take x.1) w).2.free)) (aH (bY tk (aF fr to) A) (s1.take x.1) w).2.free.length],.arr false 2 x.2.1 (rws A (aH (bY tk (aF fr to) A) (s1.take x.1) w).2.nums++x.2.2),.arr false 1 (fv ((aH (bY tk (aF fr to) A) (s1.take x.1) w).2.free)) (nums (aH (bY tk (aF fr to) A) (s1.take x.1) w).2.free),.box [.d (.sl (s1.map aD)),.d (.sl (s2.map aE)),.d (.sl (ke3 s3)),.d (.sl (ke2 s4)),.d (.sl (ke4 s5))],.box [.nils,.nils,.nils,.nils,.nils],.box [.own 6 x.1 x.1,.nils,.nils,.nils,.nils],.arr false 5 x.1 ((aH (bY tk (aF fr to) A) (s1.take x.1) w).1.map aD)])
  (fun x=>x.1≤s1.length) (fun x=>s1.length-x.1) (0,v,J)
  (gE [] [(5,0,5)] [0,1,2,3,4,5,6] rfl rfl rfl rfl rfl rfl) (kg1 _) ?_
 rintro⟨i,v1,X1⟩ hi;simp only at hi;dsimp only;have hw:=bJ (a:=i) rfl (by omega);have hl2:((aH (bY tk (aF fr to) A) (s1.take i) w).1.map aD).length=i:=by rw[ke9,mN,kg2];omega
 have htk2:((aH (bY tk (aF fr to) A) (s1.take i) w).1.map aD).take i=(aH (bY tk (aF fr to) A) (s1.take i) w).1.map aD:=ke0 (by omega);have hp:=mP (f:=bY tk (aF fr to) A) (c:=cJ) (k:=A.length) (l:=s1) (fun x _ w _=>sR x w) (i+1) w hn0;have hbt:=mP (f:=bY tk (aF fr to) A) (c:=cJ) (k:=A.length) (l:=s1) (fun x _ w _=>sR x w) i w hn0;rcases kf3 i s1.length with h5|h5
 case inl=>
  have hc:((i:Int)<(s1.length:Int))=True:=by simp;omega
  obtain⟨x,hx⟩:=bA h5;have hgu:(s1.map aD)[i]?=some (aD x):=by rw[ke6,hx];rfl
  have hmu:=cY (f:=cJ) (kd7 hx);have hsu:=jH (f:=cJ) hx;have hle:=iY (f:=cJ) s1 (i+1);have hmt:=lQ (f:=bY tk (aF fr to) A) hx w;have hcap:(i+1)*80≤aM∧i+1≤aM:=by simp[aM];omega
  have hS1:=hbt.1.1.trans hn0;have hS2:(aH (bY tk (aF fr to) A) (s1.take i) w).2.free.length≤w.free.length+aT cJ (s1.take i):=hbt.1.2.2;have hS3:=km0 hz0 hbt.1.2.1;have hS4:(bY tk (aF fr to) A x (aH (bY tk (aF fr to) A) (s1.take i) w).2).2.next<1000000000000000:=by have:=hp.2;rw[hmt,e1]at this;simp only at this;omega
  generalize hW:(aH (bY tk (aF fr to) A) (s1.take i) w).2=S at hmt hS1 hS2 hS3 hS4 ⊢;have t1:=ze9 fr to tk v1 A X1 (by omega) hfr hto htk 99999999 x.t (by have:=kV x;omega) (by omega) S hS1 (by have:=kV x;omega) hS3 (by have:=(kY (f:=ctF tk (aF fr to) A) (c:=ctn) x.cts (fun c _ w=>uY c w) (tyF tk (aF fr to) A x.t S).2).2.1;simp only[bY]at hS4;omega);have k1:=mO (tk:=tk) (sb:=aF fr to) (A:=A) x.t S;have t2:=jU8 fr to tk v1 A X1 (by omega) hfr hto htk x.cts (by have:=kV x;omega) (tyF tk (aF fr to) A x.t S).2 (k1.1.trans hS1) (by have:=k1.2.2;have:=kV x;omega) (km0 hS3 k1.2.1) hS4;simp only[bY]at hmt;generalize tyF tk (aF fr to) A x.t S=R at t1 t2 hmt;obtain⟨⟨rk,rn,rl⟩,S1⟩:=R;simp only at t1 t2 hmt;generalize aH (ctF tk (aF fr to) A) x.cts S1=R2 at t2 hmt;obtain⟨rc,S2⟩:=R2;obtain⟨xn,⟨xk,xi,xl⟩,xc⟩:=x;have e8:(aH (bY tk (aF fr to) A) (s1.take i) w).1.map aD++[[.str xn,.int .i64 rk,.int .i64 rn,.sl (kf0 rl),.sl (rc.map bD)]]=(aH (bY tk (aF fr to) A) (s1.take (i+1)) w).1.map aD:=by rw[hmt];simp[aD,aG]
  have e9:S2=(aH (bY tk (aF fr to) A) (s1.take (i+1)) w).2:=by rw[hmt]
  simp only[wb,wa,wf]at t1 t2;simp only[aD,aG,tyV,kg6,kh0,ke5,ke8]at t1 t2 hgu;simp -implicitDefEqProofs only[oS.d,J1,J2,J5,J6,↓reduceIte,reduceCtorEq,hc,hgu,ke9,kd8,kd9];refine⟨?_,?_⟩;all_goals
   refine aQ [0,1,2] t1 rfl rfl rfl rfl ?_;simp -implicitDefEqProofs only[oS.d,J1,J2,J5,J6,↓reduceIte,reduceCtorEq,hgu,kd8,kd9];refine aQ [0,1,2] t2 rfl rfl rfl rfl ?_;simp -implicitDefEqProofs only[oS.d,J1,J2,J5,J6,J7,↓reduceIte,reduceCtorEq,hcap,htk2,hw];rw[e8,e9];refine⟨(i+1,v1,X1),by show i+1≤s1.length;omega,by show s1.length-(i+1)<s1.length-i;omega,?_⟩;exact(aL [0,1,2,3,4,5,6] rfl rfl rfl rfl)
 have hc:((i:Int)<(s1.length:Int))=False:=by simp;omega
 have hie:i=s1.length:=by omega
 subst hie;rw[ki1,e1]at htk2;simp only[ki1,e1]at htk2 ⊢;simp -implicitDefEqProofs only[oS.d,J1,J2,J5,J6,↓reduceIte,reduceCtorEq,hc,ke9];have hk1:=htk2;refine bC (α:=Nat×Nat×List (List D)) (fun x=>[(8,.one (.d (.int .i64 x.1))),(0,.one (.ptr 0 0)),(3,.one (.ptr 3 0)),(5,.one (.ptr 5 0)),(4,.one (.ptr 4 0))])
  (fun x=>[.box [.own 1 x.2.1 A.length,.d (.sl (nums fr)),.d (.sl (nums to)),.d (.int .i64 (aH (cH tk (aF fr to) A) (s2.take x.1) w1).2.next),.d (.sl (nums tk)),.own 2 (fv ((aH (cH tk (aF fr to) A) (s2.take x.1) w1).2.free)) (aH (cH tk (aF fr to) A) (s2.take x.1) w1).2.free.length],.arr false 2 x.2.1 (rws A (aH (cH tk (aF fr to) A) (s2.take x.1) w1).2.nums++x.2.2),.arr false 1 (fv ((aH (cH tk (aF fr to) A) (s2.take x.1) w1).2.free)) (nums (aH (cH tk (aF fr to) A) (s2.take x.1) w1).2.free),.box [.d (.sl (s1.map aD)),.d (.sl (s2.map aE)),.d (.sl (ke3 s3)),.d (.sl (ke2 s4)),.d (.sl (ke4 s5))],.box [.nils,.nils,.nils,.nils,.nils],.box [.own 6 s1.length s1.length,.own 7 x.1 x.1,.nils,.nils,.nils],.arr false 5 s1.length (r1.map aD),.arr false 5 x.1 ((aH (cH tk (aF fr to) A) (s2.take x.1) w1).1.map aE)])
  (fun x=>x.1≤s2.length) (fun x=>s2.length-x.1) (0,v1,X1)
  (gE [] [(5,1,5)] [0,1,2,3,4,5,6,7] rfl rfl rfl rfl rfl rfl) (kg1 _) ?_
 clear hw hi hl2 htk2 hp hbt;rintro⟨i,v1,X1⟩ hi;simp only at hi;dsimp only;have hw:=bJ (a:=i) rfl (by omega);have hl2:((aH (cH tk (aF fr to) A) (s2.take i) w1).1.map aE).length=i:=by rw[ke9,mN,kg2];omega
 have htk2:((aH (cH tk (aF fr to) A) (s2.take i) w1).1.map aE).take i=(aH (cH tk (aF fr to) A) (s2.take i) w1).1.map aE:=ke0 (by omega);have hp:=mP (f:=cH tk (aF fr to) A) (c:=cO) (k:=A.length) (l:=s2) (fun x _ w _=>sS x w) (i+1) w1 hn1;have hbt:=mP (f:=cH tk (aF fr to) A) (c:=cO) (k:=A.length) (l:=s2) (fun x _ w _=>sS x w) i w1 hn1;rcases kf3 i s2.length with h5|h5
 case inl=>
  have hc:((i:Int)<(s2.length:Int))=True:=by simp;omega
  obtain⟨x,hx⟩:=bA h5;have hgu:(s2.map aE)[i]?=some (aE x):=by rw[ke6,hx];rfl
  have hmu:=cY (f:=cO) (kd7 hx);have hsu:=jH (f:=cO) hx;have hle:=iY (f:=cO) s2 (i+1);have hmt:=lQ (f:=cH tk (aF fr to) A) hx w1;have hcap:(i+1)*64≤aM∧i+1≤aM:=by simp[aM];omega
  have hS1:=hbt.1.1.trans hn1;have hS2:(aH (cH tk (aF fr to) A) (s2.take i) w1).2.free.length≤w1.free.length+aT cO (s2.take i):=hbt.1.2.2;have hS3:=km0 hz1 hbt.1.2.1;have hS4:(cH tk (aF fr to) A x (aH (cH tk (aF fr to) A) (s2.take i) w1).2).2.next<1000000000000000:=by have:=hp.2;rw[hmt,e2]at this;simp only at this;omega
  generalize hW:(aH (cH tk (aF fr to) A) (s2.take i) w1).2=S at hmt hS1 hS2 hS3 hS4 ⊢;have t1:=ze9 fr to tk v1 A X1 (by omega) hfr hto htk 99999999 x.s.t (by have:=qO x;omega) (by omega) S hS1 (by have:=qO x;omega) hS3 hS4;simp only[cH]at hmt;generalize tyF tk (aF fr to) A x.s.t S=R at t1 hmt;obtain⟨⟨rk,rn,rl⟩,S2⟩:=R;obtain⟨xn,xg,⟨xk,xi,xl⟩⟩:=x;have e8:(aH (cH tk (aF fr to) A) (s2.take i) w1).1.map aE++[[.str xn,.int .i64 xg,.int .i64 rk,.int .i64 rn,.sl (kf0 rl)]]=(aH (cH tk (aF fr to) A) (s2.take (i+1)) w1).1.map aE:=by rw[hmt];simp[aE,gP,aG]
  have e9:S2=(aH (cH tk (aF fr to) A) (s2.take (i+1)) w1).2:=by rw[hmt]
  simp only[wb,wa,wf]at t1;simp only[aE,gP,aG,tyV,ke5,ke8]at t1 hgu;simp -implicitDefEqProofs only[oS.d,J1,J2,J5,J6,↓reduceIte,reduceCtorEq,hc,hgu,ke9,kd8,kd9];refine aQ [0,1,2] t1 rfl rfl rfl rfl ?_;simp -implicitDefEqProofs only[oS.d,J1,J2,J5,J6,J7,↓reduceIte,reduceCtorEq,hcap,htk2,hw];rw[e8,e9];refine⟨(i+1,v1,X1),by show i+1≤s2.length;omega,by show s2.length-(i+1)<s2.length-i;omega,?_⟩;exact(aL [0,1,2,3,4,5,6,7] rfl rfl rfl rfl)
 have hc:((i:Int)<(s2.length:Int))=False:=by simp;omega
 have hie:i=s2.length:=by omega
 subst hie;rw[ki1,e2]at htk2;simp only[ki1,e2]at htk2 ⊢;simp -implicitDefEqProofs only[oS.d,J1,J2,J5,J6,↓reduceIte,reduceCtorEq,hc,ke9];have hk2:=htk2;refine bC (α:=Nat×Nat×List (List D)) (fun x=>[(10,.one (.d (.int .i64 x.1))),(0,.one (.ptr 0 0)),(3,.one (.ptr 3 0)),(5,.one (.ptr 5 0)),(4,.one (.ptr 4 0))])
  (fun x=>[.box [.own 1 x.2.1 A.length,.d (.sl (nums fr)),.d (.sl (nums to)),.d (.int .i64 (aH (cT tk (aF fr to) A) (s3.take x.1) w2).2.next),.d (.sl (nums tk)),.own 2 (fv ((aH (cT tk (aF fr to) A) (s3.take x.1) w2).2.free)) (aH (cT tk (aF fr to) A) (s3.take x.1) w2).2.free.length],.arr false 2 x.2.1 (rws A (aH (cT tk (aF fr to) A) (s3.take x.1) w2).2.nums++x.2.2),.arr false 1 (fv ((aH (cT tk (aF fr to) A) (s3.take x.1) w2).2.free)) (nums (aH (cT tk (aF fr to) A) (s3.take x.1) w2).2.free),.box [.d (.sl (s1.map aD)),.d (.sl (s2.map aE)),.d (.sl (ke3 s3)),.d (.sl (ke2 s4)),.d (.sl (ke4 s5))],.box [.nils,.nils,.nils,.nils,.nils],.box [.own 6 s1.length s1.length,.own 7 s2.length s2.length,.own 8 x.1 x.1,.nils,.nils],.arr false 5 s1.length (r1.map aD),.arr false 5 s2.length (r2.map aE),.arr false 6 x.1 ((aH (cT tk (aF fr to) A) (s3.take x.1) w2).1.map bX)])
  (fun x=>x.1≤s3.length) (fun x=>s3.length-x.1) (0,v1,X1)
  (gE [] [(5,2,6)] [0,1,2,3,4,5,6,7,8] rfl rfl rfl rfl rfl rfl) (kg1 _) ?_
 clear hw hi hl2 htk2 hp hbt;rintro⟨i,v1,X1⟩ hi;simp only at hi;dsimp only;have hw:=bJ (a:=i) rfl (by omega);have hl2:((aH (cT tk (aF fr to) A) (s3.take i) w2).1.map bX).length=i:=by rw[ke9,mN,kg2];omega
 have htk2:((aH (cT tk (aF fr to) A) (s3.take i) w2).1.map bX).take i=(aH (cT tk (aF fr to) A) (s3.take i) w2).1.map bX:=ke0 (by omega);have hp:=mP (f:=cT tk (aF fr to) A) (c:=eB) (k:=A.length) (l:=s3) (fun x _ w hw=>(jC x.2 A w hw).mono (by rw[nG];omega)) (i+1) w2 hn2;have hbt:=mP (f:=cT tk (aF fr to) A) (c:=eB) (k:=A.length) (l:=s3) (fun x _ w hw=>(jC x.2 A w hw).mono (by rw[nG];omega)) i w2 hn2;rcases kf3 i s3.length with h5|h5
 case inl=>
  have hc:((i:Int)<(s3.length:Int))=True:=by simp;omega
  obtain⟨x,hx⟩:=bA h5;have hgu:(ke3 s3)[i]?=some (bX x):=by rw[kI];rw[ke6,hx];rfl
  have hmu:=cY (f:=eB) (kd7 hx);have hsu:=jH (f:=eB) hx;have hle:=iY (f:=eB) s3 (i+1);have hmt:=lQ (f:=cT tk (aF fr to) A) hx w2;have hcap:(i+1)*136≤aM∧i+1≤aM:=by simp[aM];omega
  have hS1:=hbt.1.1.trans hn2;have hS2:(aH (cT tk (aF fr to) A) (s3.take i) w2).2.free.length≤w2.free.length+aT eB (s3.take i):=hbt.1.2.2;have hS3:=km0 hz2 hbt.1.2.1;have hS4:(cT tk (aF fr to) A x (aH (cT tk (aF fr to) A) (s3.take i) w2).2).2.next<1000000000000000:=by have:=hp.2;rw[hmt,e3]at this;simp only at this;omega
  generalize hW:(aH (cT tk (aF fr to) A) (s3.take i) w2).2=S at hmt hS1 hS2 hS3 hS4 ⊢;have t1:=H3 x (kd7 hx) A S v1 X1 hS1 (by have:=nG x;omega) (by have:=nG x;omega) hS3 hS4;simp only[cT]at hmt;generalize aZ tk (aF fr to) A x.2 S=R at t1 hmt;obtain⟨⟨m1,m2,m3,m4,m5⟩,S2⟩:=R;obtain⟨xn,⟨x1,x2,x3,x4,x5⟩⟩:=x;have e8:(aH (cT tk (aF fr to) A) (s3.take i) w2).1.map bX++[[.str xn,.sl (m1.map aD),.sl (m2.map aE),.sl (ke3 m3),.sl (ke2 m4),.sl (ke4 m5)]]=(aH (cT tk (aF fr to) A) (s3.take (i+1)) w2).1.map bX:=by rw[hmt];simp[bX,aA]
  have e9:S2=(aH (cT tk (aF fr to) A) (s3.take (i+1)) w2).2:=by rw[hmt]
  simp only[wb,wa,wf]at t1;simp only[bX,aA,stW,ke5,ke8]at t1 hgu;simp -implicitDefEqProofs only[oS.d,J1,J2,J5,J6,↓reduceIte,reduceCtorEq,hc,hgu,gT,kd8,kd9];refine bI [0,1,2] (t1) rfl rfl rfl ?_;rintro _ _ ⟨rfl,v2,X2,rfl⟩;refine⟨_,_,rfl,?_⟩;simp -implicitDefEqProofs only[oS.d,J1,J2,J5,J6,J7,↓reduceIte,reduceCtorEq,hgu,hcap,htk2,hw,kd8,kd9];rw[e8,e9];refine⟨(i+1,v2,X2),by show i+1≤s3.length;omega,by show s3.length-(i+1)<s3.length-i;omega,?_⟩;exact(aL [0,1,2,3,4,5,6,7,8] rfl rfl rfl rfl)
 have hc:((i:Int)<(s3.length:Int))=False:=by simp;omega
 have hie:i=s3.length:=by omega
 subst hie;rw[ki1,e3]at htk2;simp only[ki1,e3]at htk2 ⊢;simp -implicitDefEqProofs only[oS.d,J1,J2,J5,J6,↓reduceIte,reduceCtorEq,hc,gT];have hk3:=htk2;refine bC (α:=Nat×Nat×List (List D)) (fun x=>[(11,.one (.d (.int .i64 x.1))),(0,.one (.ptr 0 0)),(3,.one (.ptr 3 0)),(5,.one (.ptr 5 0)),(4,.one (.ptr 4 0))])
  (fun x=>[.box [.own 1 x.2.1 A.length,.d (.sl (nums fr)),.d (.sl (nums to)),.d (.int .i64 (aH (dB tk (aF fr to) A) (s4.take x.1) w3).2.next),.d (.sl (nums tk)),.own 2 (fv ((aH (dB tk (aF fr to) A) (s4.take x.1) w3).2.free)) (aH (dB tk (aF fr to) A) (s4.take x.1) w3).2.free.length],.arr false 2 x.2.1 (rws A (aH (dB tk (aF fr to) A) (s4.take x.1) w3).2.nums++x.2.2),.arr false 1 (fv ((aH (dB tk (aF fr to) A) (s4.take x.1) w3).2.free)) (nums (aH (dB tk (aF fr to) A) (s4.take x.1) w3).2.free),.box [.d (.sl (s1.map aD)),.d (.sl (s2.map aE)),.d (.sl (ke3 s3)),.d (.sl (ke2 s4)),.d (.sl (ke4 s5))],.box [.nils,.nils,.nils,.nils,.nils],.box [.own 6 s1.length s1.length,.own 7 s2.length s2.length,.own 8 s3.length s3.length,.own 9 x.1 x.1,.nils],.arr false 5 s1.length (r1.map aD),.arr false 5 s2.length (r2.map aE),.arr false 6 s3.length (r3.map bX),.arr false 13 x.1 ((aH (dB tk (aF fr to) A) (s4.take x.1) w3).1.map bT)])
  (fun x=>x.1≤s4.length) (fun x=>s4.length-x.1) (0,v1,X1)
  (gE [] [(5,3,13)] [0,1,2,3,4,5,6,7,8,9] rfl rfl rfl rfl rfl rfl) (kg1 _) ?_
 clear hw hi hl2 htk2 hp hbt;rintro⟨i,v1,X1⟩ hi;simp only at hi;dsimp only;have hw:=bJ (a:=i) rfl (by omega);have hl2:((aH (dB tk (aF fr to) A) (s4.take i) w3).1.map bT).length=i:=by rw[ke9,mN,kg2];omega
 have htk2:((aH (dB tk (aF fr to) A) (s4.take i) w3).1.map bT).take i=(aH (dB tk (aF fr to) A) (s4.take i) w3).1.map bT:=ke0 (by omega);have hp:=mP (f:=dB tk (aF fr to) A) (c:=dZ) (k:=A.length) (l:=s4) (fun x _ w hw=>(uZ x.2 w hw).mono (by rw[lK];omega)) (i+1) w3 hn3;have hbt:=mP (f:=dB tk (aF fr to) A) (c:=dZ) (k:=A.length) (l:=s4) (fun x _ w hw=>(uZ x.2 w hw).mono (by rw[lK];omega)) i w3 hn3;rcases kf3 i s4.length with h5|h5
 case inl=>
  have hc:((i:Int)<(s4.length:Int))=True:=by simp;omega
  obtain⟨x,hx⟩:=bA h5;have hgu:(ke2 s4)[i]?=some (bT x):=by rw[iL];rw[ke6,hx];rfl
  have hmu:=cY (f:=dZ) (kd7 hx);have hsu:=jH (f:=dZ) hx;have hle:=iY (f:=dZ) s4 (i+1);have hmt:=lQ (f:=dB tk (aF fr to) A) hx w3;have hcap:(i+1)*304≤aM∧i+1≤aM:=by simp[aM];omega
  have hS1:=hbt.1.1.trans hn3;have hS2:(aH (dB tk (aF fr to) A) (s4.take i) w3).2.free.length≤w3.free.length+aT dZ (s4.take i):=hbt.1.2.2;have hS3:=km0 hz3 hbt.1.2.1;have hS4:(dB tk (aF fr to) A x (aH (dB tk (aF fr to) A) (s4.take i) w3).2).2.next<1000000000000000:=by have:=hp.2;rw[hmt,e4]at this;simp only at this;omega
  generalize hW:(aH (dB tk (aF fr to) A) (s4.take i) w3).2=S at hmt hS1 hS2 hS3 hS4 ⊢;have t1:=jV2 fr to tk (H4 x (kd7 hx)).1 (H4 x (kd7 hx)).2 x.2.1 x.2.2.2.1 A S v1 X1 hS1 (by have:=lK x;omega) (by have:=lK x;omega) hS3 hS4;simp only[dB]at hmt;have hxe:(x.2.1,x.2.2.1,x.2.2.2.1,x.2.2.2.2)=x.2:=rfl;rw[hxe]at t1;generalize fnF tk (aF fr to) A x.2 S=R at t1 hmt;obtain⟨⟨p1,⟨m1,m2,m3,m4,m5⟩,p2,⟨n1,n2,n3,n4,n5⟩⟩,S2⟩:=R;obtain⟨xn,xp,⟨x1,x2,x3,x4,x5⟩,xq,⟨y1,y2,y3,y4,y5⟩⟩:=x;clear hxe;have e8:(aH (dB tk (aF fr to) A) (s4.take i) w3).1.map bT++[[.str xn,.sl (nums p1),.sl (m1.map aD),.sl (m2.map aE),.sl (ke3 m3),.sl (ke2 m4),.sl (ke4 m5),.sl (nums p2),.sl (n1.map aD),.sl (n2.map aE),.sl (ke3 n3),.sl (ke2 n4),.sl (ke4 n5)]]=(aH (dB tk (aF fr to) A) (s4.take (i+1)) w3).1.map bT:=by rw[hmt];simp[bT,eU,aA]
  have e9:S2=(aH (dB tk (aF fr to) A) (s4.take (i+1)) w3).2:=by rw[hmt]
  simp only[wb,wa,wf]at t1;simp only[bT,eU,aA,kg6,kh0,ke5,ke8]at t1 hgu;simp -implicitDefEqProofs only[oS.d,J1,J2,J5,J6,↓reduceIte,reduceCtorEq,hc,hgu,iN,kd8,kd9];refine bI [0,1,2] (t1) rfl rfl rfl ?_;rintro _ _ ⟨rfl,v2,X2,rfl⟩;refine⟨_,_,rfl,?_⟩;simp -implicitDefEqProofs only[oS.d,J1,J2,J5,J6,J7,↓reduceIte,reduceCtorEq,hgu,hcap,htk2,hw,kd8,kd9];rw[e8,e9];refine⟨(i+1,v2,X2),by show i+1≤s4.length;omega,by show s4.length-(i+1)<s4.length-i;omega,?_⟩;exact(aL [0,1,2,3,4,5,6,7,8,9] rfl rfl rfl rfl)
 have hc:((i:Int)<(s4.length:Int))=False:=by simp;omega
 have hie:i=s4.length:=by omega
 subst hie;rw[ki1,e4]at htk2;simp only[ki1,e4]at htk2 ⊢;simp -implicitDefEqProofs only[oS.d,J1,J2,J5,J6,↓reduceIte,reduceCtorEq,hc,iN];have hk4:=htk2;refine bC (α:=Nat×Nat×List (List D)) (fun x=>[(12,.one (.d (.int .i64 x.1))),(0,.one (.ptr 0 0)),(3,.one (.ptr 3 0)),(5,.one (.ptr 5 0)),(4,.one (.ptr 4 0))])
  (fun x=>[.box [.own 1 x.2.1 A.length,.d (.sl (nums fr)),.d (.sl (nums to)),.d (.int .i64 (aH (dJ tk (aF fr to) A) (s5.take x.1) w4).2.next),.d (.sl (nums tk)),.own 2 (fv ((aH (dJ tk (aF fr to) A) (s5.take x.1) w4).2.free)) (aH (dJ tk (aF fr to) A) (s5.take x.1) w4).2.free.length],.arr false 2 x.2.1 (rws A (aH (dJ tk (aF fr to) A) (s5.take x.1) w4).2.nums++x.2.2),.arr false 1 (fv ((aH (dJ tk (aF fr to) A) (s5.take x.1) w4).2.free)) (nums (aH (dJ tk (aF fr to) A) (s5.take x.1) w4).2.free),.box [.d (.sl (s1.map aD)),.d (.sl (s2.map aE)),.d (.sl (ke3 s3)),.d (.sl (ke2 s4)),.d (.sl (ke4 s5))],.box [.nils,.nils,.nils,.nils,.nils],.box [.own 6 s1.length s1.length,.own 7 s2.length s2.length,.own 8 s3.length s3.length,.own 9 s4.length s4.length,.own 10 x.1 x.1],.arr false 5 s1.length (r1.map aD),.arr false 5 s2.length (r2.map aE),.arr false 6 s3.length (r3.map bX),.arr false 13 s4.length (r4.map bT),.arr false 7 x.1 ((aH (dJ tk (aF fr to) A) (s5.take x.1) w4).1.map cA)])
  (fun x=>x.1≤s5.length) (fun x=>s5.length-x.1) (0,v1,X1)
  (gE [] [(5,4,7)] [0,1,2,3,4,5,6,7,8,9,10] rfl rfl rfl rfl rfl rfl) (kg1 _) ?_
 clear hw hi hl2 htk2 hp hbt;rintro⟨i,v1,X1⟩ hi;simp only at hi;dsimp only;have hw:=bJ (a:=i) rfl (by omega);have hl2:((aH (dJ tk (aF fr to) A) (s5.take i) w4).1.map cA).length=i:=by rw[ke9,mN,kg2];omega
 have htk2:((aH (dJ tk (aF fr to) A) (s5.take i) w4).1.map cA).take i=(aH (dJ tk (aF fr to) A) (s5.take i) w4).1.map cA:=ke0 (by omega);have hp:=mP (f:=dJ tk (aF fr to) A) (c:=eD) (k:=A.length) (l:=s5) (fun x _ w hw=>(oJ x.2 w hw).mono (by rw[nH];omega)) (i+1) w4 hn4;have hbt:=mP (f:=dJ tk (aF fr to) A) (c:=eD) (k:=A.length) (l:=s5) (fun x _ w hw=>(oJ x.2 w hw).mono (by rw[nH];omega)) i w4 hn4;rcases kf3 i s5.length with h5|h5
 case inl=>
  have hc:((i:Int)<(s5.length:Int))=True:=by simp;omega
  obtain⟨x,hx⟩:=bA h5;have hgu:(ke4 s5)[i]?=some (cA x):=by rw[iM];rw[ke6,hx];rfl
  have hmu:=cY (f:=eD) (kd7 hx);have hsu:=jH (f:=eD) hx;have hle:=iY (f:=eD) s5 (i+1);have hmt:=lQ (f:=dJ tk (aF fr to) A) hx w4;have hcap:(i+1)*160≤aM∧i+1≤aM:=by simp[aM];omega
  have hS1:=hbt.1.1.trans hn4;have hS2:(aH (dJ tk (aF fr to) A) (s5.take i) w4).2.free.length≤w4.free.length+aT eD (s5.take i):=hbt.1.2.2;have hS3:=km0 hz4 hbt.1.2.1;have hS4:(dJ tk (aF fr to) A x (aH (dJ tk (aF fr to) A) (s5.take i) w4).2).2.next<1000000000000000:=by have:=hp.2;rw[hmt,e5]at this;simp only at this;omega
  generalize hW:(aH (dJ tk (aF fr to) A) (s5.take i) w4).2=S at hmt hS1 hS2 hS3 hS4 ⊢;have t1:=vA fr to tk (H5 x (kd7 hx)) x.2.1 A S v1 X1 hS1 (by have:=nH x;omega) (by have:=nH x;omega) hS3 hS4;simp only[dJ]at hmt;have hxe:(x.2.1,x.2.2)=x.2:=rfl;rw[hxe]at t1;generalize bU tk (aF fr to) A x.2 S=R at t1 hmt;obtain⟨⟨p1,⟨m1,m2,m3,m4,m5⟩⟩,S2⟩:=R;obtain⟨xn,xp,⟨x1,x2,x3,x4,x5⟩⟩:=x;clear hxe;have e8:(aH (dJ tk (aF fr to) A) (s5.take i) w4).1.map cA++[[.str xn,.sl (nums p1),.sl (m1.map aD),.sl (m2.map aE),.sl (ke3 m3),.sl (ke2 m4),.sl (ke4 m5)]]=(aH (dJ tk (aF fr to) A) (s5.take (i+1)) w4).1.map cA:=by rw[hmt];simp[cA,aA]
  have e9:S2=(aH (dJ tk (aF fr to) A) (s5.take (i+1)) w4).2:=by rw[hmt]
  simp only[wb,wa,wf]at t1;simp only[cA,aA,abW,ke5,ke8]at t1 hgu;simp -implicitDefEqProofs only[oS.d,J1,J2,J5,J6,↓reduceIte,reduceCtorEq,hc,hgu,htk2,iO,kd8,kd9];refine bI [0,1,2] (t1) rfl rfl rfl ?_;rintro _ _ ⟨rfl,v2,X2,rfl⟩;refine⟨_,_,rfl,?_⟩;simp -implicitDefEqProofs only[oS.d,J1,J2,J5,J6,J7,↓reduceIte,reduceCtorEq,hgu,hcap,htk2,hw,kd8,kd9];rw[e8,e9];refine⟨(i+1,v2,X2),by show i+1≤s5.length;omega,by show s5.length-(i+1)<s5.length-i;omega,?_⟩;exact(aL [0,1,2,3,4,5,6,7,8,9,10] rfl rfl rfl rfl)
 have hc:((i:Int)<(s5.length:Int))=False:=by simp;omega
 have hie:i=s5.length:=by omega
 subst hie;rw[ki1,e5]at htk2;simp only[ki1,e5]at htk2 ⊢;simp -implicitDefEqProofs only[oS.d,J1,J2,J5,J6,↓reduceIte,reduceCtorEq,hc,iO];have hk5:=htk2;apply aI [0,1,2]
 ·simp only[cX,eH,Nat.reduceBEq,cond_true,cond_false,mI,cI,List.getElem?_cons_succ,List.getElem?_cons_zero,mkV,List.drop_zero,kf6,List.length_nil,Nat.reduceAdd,Nat.le_refl,if_true,List.take_succ_cons,List.take_zero];rfl
 ·first|rfl|(simp[fin,bK,bB,bR,bM,dG,bO,idx,cM,aJ,bH,aJ.renLs];first|exact⟨rfl,rfl⟩|exact⟨rfl,rfl,rfl⟩)
 rw[hk1,hk2,hk3,hk4,hk5,kI,iL,iM];exact⟨rfl,v1,X1,rfl⟩
theorem zf0 (fr to tk:List Int) (hfr:fr.length<1000000000) (hto:to.length<1000000000) (htk:tk.length<1000000000):∀(s:Stx),stn s<90000000→pL fr to tk s:=by
 intro s;induction s using Stx.ind with
 |h ts vs ss fs gs i1 i2 i3=>
 intro hs;have hs':=hs;simp only[stn]at hs';refine jV3 fr to tk hfr hto htk ts vs ss fs gs hs (fun x hx=>i1 x hx ?_) (fun x hx=>⟨(i2 x hx).1 ?_,(i2 x hx).2 ?_⟩) (fun x hx=>i3 x hx ?_)
 ·have:=pH hx;omega
 ·have:=iX hx;omega
 ·have:=iX hx;omega
 ·have:=nF hx;omega
theorem z45 (s:ByteArray) (i:Nat):s[i]?=s.data.toList[i]?:=by
 by_cases h:i<s.size
 ·have h2:i<s.data.toList.length:=by simpa using h
  rw[getElem?_pos s i h,ke7 h2];rfl
 ·have h2:¬i<s.data.toList.length:=by simpa using h
  rw[getElem?_neg s i h,List.getElem?_eq_none (by omega)]
def vix:L→Int→Option V
 |.d (.str s),n=>if 0≤n then (match s[n.toNat]? with|some b=>some (.one (.d (.int .u8 b.toNat)))|none=>none)else none
 |_,_=>none
theorem vB {s:ByteArray} {n:Nat} {b:UInt8} (hb:s[n]?=some b):vix (.d (.str s)) (n:Int)=some (.one (.d (.int .u8 b.toNat))):=by
 simp only[vix,kd8,if_true,kd9,hb]
theorem zE5 {P:Program} {T:Sl} {h:aB} {K:Kn (V×aB)} {t:TypeId} {x ix:Operand} {i:TI} (ht:ti P t=some i) (hk:i.kd = .str) :
  @dI P T h (.index t x ix) K=@obI _ ((asL (opd T x)).bind fun l=>(asI (opd T ix)).bind fun q=>(vix l q.2).map fun v=>(v,h)) K:=
 gC (by
  simp only[vop,ht];rcases opd T x with _|⟨l|ls|_⟩<;>first|rfl|skip
  rotate_left
  ·have hv:∀n,vT i n (.agg ls)=none:=fun n=>by unfold vT;simp only[hk];split<;>rfl
   rcases opd T ix with _|⟨m|_|_⟩<;>first|rfl|skip
   rcases m with⟨_|⟨k,n⟩|_|_|_⟩|_|_|_|_|_|_|_|_|_|_|_<;>first|rfl|skip
   simp only[hv];rfl
  rcases opd T ix with _|⟨m|_|_⟩
  ·rcases l with⟨_|_|_|_|_⟩|_|_|_|_|_|_|_|_|_|_|_|_<;>rfl
  ·rcases m with⟨_|⟨k,n⟩|_|_|_⟩|_|_|_|_|_|_|_|_|_|_|_|_<;>rcases l with⟨_|_|s|_|_⟩|_|_|_|_|_|_|_|_|_|_|_|_<;>first|rfl|skip
   simp only[hk,asL,asI,Option.bind_some,vix];split
   ·cases s[n.toNat]?<;>rfl
   ·rfl
  ·rcases l with⟨_|_|_|_|_⟩|_|_|_|_|_|_|_|_|_|_|_|_<;>rfl
  ·rcases l with⟨_|_|_|_|_⟩|_|_|_|_|_|_|_|_|_|_|_|_<;>rfl) rfl (by simp[cP])
theorem oK {α:Type} {l:List α} {i:Nat} {x:α} (h:l[i]?=some x):l.drop i=x::l.drop (i+1):=by
 have hl:=(List.getElem?_eq_some_iff.1 h).1;rw[List.drop_eq_getElem_cons hl];rw[ke7 hl]at h;rw[Option.some.inj h]
theorem yI (a b:ByteArray) (ha:a.size<100000000000) (hb:b.size<100000000000):VC kd5 191 [.one (.d (.str a)),.one (.d (.str b))] [] fun r h'=>r = .one (.d (.int .i64 (bZ a.data.toList b.data.toList)))∧h'=[]:=by
 have sa:a.data.toList.length=a.size:=by simp
 have sb:b.data.toList.length=b.size:=by simp
 refine aS aR jF0 (by simp) ?_;show vwp kd5 0 zv6 _ [(0,.one (.d (.str a))),(1,.one (.d (.str b)))] [];conv in zv6=>cbv
 rw[aO];simp -implicitDefEqProofs only[oS.d];refine bC (α:=Nat) (fun i=>[(5,.one (.d (.int .i64 i))),(0,.one (.d (.str a))),(1,.one (.d (.str b)))]) (fun _=>[])
  (fun i=>i≤a.size∧i≤b.size∧bZ a.data.toList b.data.toList=bZ (a.data.toList.drop i) (b.data.toList.drop i)) (fun i=>a.size-i) 0
  (aL [] rfl rfl rfl rfl) ⟨kg1 _,kg1 _,rfl⟩ ?_
 rintro i ⟨hi1,hi2,hc⟩;rcases kf3 i a.size with h1|h1
 ·have e1:((i:Int)<(a.size:Int))=True:=by simp;omega
  rcases kf3 i b.size with h2|h2
  ·have e2:((i:Int)<(b.size:Int))=True:=by simp;omega
   obtain⟨x,hx⟩:=bA (l:=a.data.toList) (i:=i) (by omega);obtain⟨y,hy⟩:=bA (l:=b.data.toList) (i:=i) (by omega);have gx:=(z45 a i).trans hx;have gy:=(z45 b i).trans hy;rw[oK hx,oK hy,bZ]at hc;rcases Nat.lt_trichotomy x.toNat y.toNat with h3|h3|h3
   ·have e3:((x.toNat:Int)<(y.toNat:Int))=True:=by simp;omega
    rw[if_pos h3]at hc;simp -implicitDefEqProofs only[oS.d,J2,↓reduceIte,reduceCtorEq,e1,e2,e3,zE5 ti9 rfl,vB gx,vB gy];apply aI [];rfl;rfl;exact⟨by rw[hc],rfl⟩
   ·have e3:((x.toNat:Int)<(y.toNat:Int))=False:=by simp;omega
    have e4:((y.toNat:Int)<(x.toNat:Int))=False:=by simp;omega
    rw[if_neg (by omega),if_neg (by omega)]at hc;have hw:=bJ (a:=i) rfl (by omega);simp -implicitDefEqProofs only[oS.d,J2,↓reduceIte,reduceCtorEq,e1,e2,e3,e4,zE5 ti9 rfl,vB gx,vB gy,hw];refine⟨i+1,⟨by omega,by omega,hc⟩,by omega,?_⟩;exact(aL [] rfl rfl rfl rfl)
   ·have e3:((x.toNat:Int)<(y.toNat:Int))=False:=by simp;omega
    have e4:((y.toNat:Int)<(x.toNat:Int))=True:=by simp;omega
    rw[if_neg (by omega),if_pos h3]at hc;simp -implicitDefEqProofs only[oS.d,J2,↓reduceIte,reduceCtorEq,e1,e2,e3,e4,zE5 ti9 rfl,vB gx,vB gy];apply aI [];rfl;rfl;exact⟨by rw[hc],rfl⟩
  ·have e2:((i:Int)<(b.size:Int))=False:=by simp;omega
   have e5:((a.size:Int)<(b.size:Int))=False:=by simp;omega
   have e6:((b.size:Int)<(a.size:Int))=True:=by simp;omega
   obtain⟨x,hx⟩:=bA (l:=a.data.toList) (i:=i) (by omega);rw[oK hx,kh2 (l:=b.data.toList) (by omega)]at hc;simp -implicitDefEqProofs only[oS.d,J2,↓reduceIte,reduceCtorEq,e1,e2,e5,e6];apply aI [];rfl;rfl;exact⟨by rw[hc];try rfl,rfl⟩
 ·have e1:((i:Int)<(a.size:Int))=False:=by simp;omega
  rw[kh2 (l:=a.data.toList) (by omega)]at hc;rcases kf3 i b.size with h2|h2
  ·have e5:((a.size:Int)<(b.size:Int))=True:=by simp;omega
   obtain⟨y,hy⟩:=bA (l:=b.data.toList) (i:=i) (by omega);rw[oK hy]at hc;simp -implicitDefEqProofs only[oS.d,J2,↓reduceIte,reduceCtorEq,e1,e5];apply aI [];rfl;rfl;exact⟨by rw[hc];try rfl,rfl⟩
  ·have e5:((a.size:Int)<(b.size:Int))=False:=by simp;omega
   have e6:((b.size:Int)<(a.size:Int))=False:=by simp;omega
   rw[kh2 (l:=b.data.toList) (by omega)]at hc;simp -implicitDefEqProofs only[oS.d,J2,↓reduceIte,e1,e5,e6];apply aI [];rfl;rfl;exact⟨by rw[hc];try rfl,rfl⟩
theorem z47 {α:Type} {lt:ByteArray→ByteArray→Bool} {nm:α→ByteArray} {x:α}:∀{a b:List α},(∀y∈a,lt (nm x) (nm y)=true)→dH lt nm x (a++b)=a++dH lt nm x b
 |[],_,_=>rfl
 |y::a,b,h=>by
  rw[kg6,dH,if_pos (h y (by simp)),z47 (fun z hz=>h z (by simp[hz]))];rfl
theorem oL {α:Type} {lt:ByteArray→ByteArray→Bool} {nm:α→ByteArray} {x:α} {l:List α} {k:Nat} (h1:∀y∈l.drop k,lt (nm x) (nm y)=true) (h2:∀y,0<k→l[k-1]?=some y→¬lt (nm x) (nm y)=true) (hk:k≤l.length):l.take k++x::l.drop k=(dH lt nm x l.reverse).reverse:=by
 conv=>rhs;rw[←List.take_append_drop k l,ko2]
 rw[z47 (fun y hy=>h1 y (List.mem_reverse.1 hy)),ko2,ko4];have hb:dH lt nm x (l.take k).reverse=x::(l.take k).reverse:=by
  cases k with
  |zero=>rfl
  |succ k=>
   obtain⟨y,hy⟩:=bA (l:=l) (i:=k) (by omega);rw[ki7,hy];simp only[kk7,ko2,km4,List.reverse_nil,kh0,kg6,dH];rw[if_neg (h2 y (by omega) (by simpa using hy))]
 rw[hb,km4,ko4,kf1];rfl
theorem yJ {α:Type} {l:List α} {n:α} {k:Nat} (hk:k≤l.length):(l.take k++n::l.drop k)[k]?=some n:=by
 rw[List.getElem?_append_right (by simp;omega)];simp[Nat.min_eq_left hk]
theorem yK {α:Type} {l:List α} {n y:α} {k:Nat} (hk:k<l.length) (hy:l[k]?=some y):(l.take (k+1)++n::l.drop (k+1))[k]?=some y:=by
 rw[List.getElem?_append_left (by simp;omega),List.getElem?_take_of_lt (by omega)];exact hy
theorem yL {α:Type} {l:List α} {n y:α} {k:Nat} (hk:k<l.length) (hy:l[k]?=some y):((l.take (k+1)++n::l.drop (k+1)).set (k+1) y).set k n=l.take k++n::l.drop k:=by
 have e1:l.take (k+1)=l.take k++[y]:=by rw[ki7,hy];rfl
 have e2:=oK hy;have hlen:(l.take k).length=k:=by simp;omega
 rw[e1,e2,kf1];generalize l.drop (k+1)=q;generalize l.take k=p at hlen;subst hlen;simp only[kg6,kh0];rw[kk5 _ _ (by omega),kk5 _ _ (by omega)];simp
theorem yM {α:Type} {lt:ByteArray→ByteArray→Bool} {nm:α→ByteArray} {l:List α} {i:Nat} {x:α} (h:l[i]?=some x):bL lt nm (l.take (i+1))=(dH lt nm x (bL lt nm (l.take i)).reverse).reverse:=by
 unfold bL;rw[ki7,h];simp only[kk7,List.foldl_append,kq5,List.foldl_nil,ko4]
theorem z48 {α:Type} {lt:ByteArray→ByteArray→Bool} {nm:α→ByteArray} {x:α}:∀l:List α,(dH lt nm x l).length=l.length+1
 |[]=>rfl
 |y::r=>by unfold dH;split<;>simp[z48 r]
theorem yN {α:Type} {lt:ByteArray→ByteArray→Bool} {nm:α→ByteArray} (l:List α):(bL lt nm l).length=l.length:=by
 have:∀(l acc:List α),(l.foldl (fun acc x=>dH lt nm x acc) acc).length=acc.length+l.length:=by
  intro l;induction l with
  |nil=>intro acc;simp
  |cons x l ih=>intro acc;simp only[kq5,kf6,ih,z48];omega
 simp[bL,this]
theorem yO {α:Type} {lt:ByteArray→ByteArray→Bool} {nm:α→ByteArray} {l:List α} {x:α}:x∈bL lt nm l↔x∈l:=by
 have hi:∀(y:α) (l:List α),x∈dH lt nm y l↔x=y∨x∈l:=by
  intro y l;induction l with
  |nil=>simp[dH]
  |cons z r ih=>
   unfold dH;split
   ·simp only[kg9,ih];constructor
    ·rintro(h|h|h)<;>simp[h]
    ·rintro(h|h|h)<;>simp[h]
   ·simp
 have:∀(l acc:List α),x∈l.foldl (fun acc x=>dH lt nm x acc) acc↔x∈acc∨x∈l:=by
  intro l;induction l with
  |nil=>intro acc;simp
  |cons y l ih=>
   intro acc;simp only[kq5,ih,hi,kg9];constructor
   ·rintro((h|h)|h)<;>simp[h]
   ·rintro(h|h|h)<;>simp[h]
 simp[bL,this]
end Go.Vt.Tryz
