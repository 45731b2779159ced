import Derived.Test.YtdabfkmhkoppcaaGreatDoorVtWh5
import Derived.Test.YtdabfkmhkoppcaaGreatDoorVtWh3
import Derived.Test.YtdabfkmhkoppcaaGreatDoorVtA1
import Derived.Test.YtdabfkmhkoppcaaGreatDoorVtX5
set_option linter.all false
set_option maxHeartbeats 8000000
set_option maxRecDepth 100000
open Int renaming lt_of_le_of_lt→kA7,natCast_nonneg→kq2,toNat_natCast→kq4
open List renaming append_assoc→kr3,cons_append→kr0,forall_mem_cons→kt7,getElem?_append_right→kr5,getElem?_cons_succ→ks4,getElem?_cons_zero→kr6,getElem?_eq_some_iff→kp9,getElem?_map→ks1,getElem?_set_ne→ku5,length_append→kq3,length_cons→kr4,length_map→kr8,length_nil→kr7,length_set→ku4,map_cons→kq1,map_nil→kq5,mem_of_getElem?→kq0,mem_reverse→ky6,mergeSort_perm→kI7,nil_append→kr2,not_mem_nil→ku1,set_append_right→kx2,set_cons_succ→kv1,set_cons_zero→ku7,take_of_length_le→kq6
open Nat renaming le_refl→ks0,lt_or_ge→ks3,reduceAdd→ks7,zero_add→kt2,zero_le→kt1
open Option renaming map_some→kt9
open Go.Proofs.Tryz renaming prog→kp8
open Go.Vt.aA renaming funs→kq8,sigs→kq9,subs→kq7
open Go.Vt.aF renaming encs→ks8
open Go.Vt.aG renaming renLs→ks9
open Go.Vt renaming dL→J0,mkV→J1
open Nat renaming reduceBEq→J2,reduceEqDiff→J3,reduceLT→J4,reduceLeDiff→J5,reduceAdd→J6,reduceMul→J7,reduceSub→J8
namespace Go.Vt.Tryz
open Go.Proofs Go.Vt.Al
theorem j86 {fr:List Int} (hfr:fr.length<1000000000) (x1:List Tym) (x2:List Vam) (x3:List (ByteArray×Stx)) (x4:List (ByteArray×FnE)) (x5:List iN) (hsm:stn (.mk x1 x2 x3 x4 x5)<90000000)
  (H3:∀x∈x3,CS fr x.2) (H4:∀x∈x4,CS fr x.2.2.1∧CS fr x.2.2.2.2) (H5:∀x∈x5,CS fr x.2.2):CS fr (.mk x1 x2 x3 x4 x5):=by
 intro H c a ms b A w hR hs hw hb;simp only[stn,qB,qC,qD]at hsm hs;have hl1:=eC (f:=dC) (fun t=>by unfold dC;omega) x1;have hl2:=eC (f:=dJ) (fun t=>by unfold dJ;omega) x2;have hl3:=eC (f:=eZ) (fun t=>by unfold eZ;omega) x3;have hl4:=eC (f:=eQ) (fun t=>by unfold eQ;omega) x4;have hl5:=eC (f:=fJ) (fun t=>by unfold fJ;omega) x5;rw[sI]at hb ⊢;have hlA:=hR.lA;have hlN:=hR.lN;have hn0:w.nums.length=A.length:=hlN.trans hlA.symm;have bh1:∀x∈x1,∀w:WS,w.nums.length=A.length→Bh w (cR fr id A x w).2 (dC x):=fun x _ w _=>wJ x w;have bh2:∀x∈x2,∀w:WS,w.nums.length=A.length→Bh w (dK fr id A x w).2 (dJ x):=fun x _ w _=>wK x w;have bh3:∀x∈x3,∀w:WS,w.nums.length=A.length→Bh w (eD fr id A x w).2 (eZ x):=fun x _ w hw=>(kM x.2 A w hw).mono (by rw[tU];omega);have bh4:∀x∈x4,∀w:WS,w.nums.length=A.length→Bh w (eT fr id A x w).2 (eQ x):=fun x _ w hw=>(zi2 x.2 w hw).mono (by rw[qH];omega);have bh5:∀x∈x5,∀w:WS,w.nums.length=A.length→Bh w (jB fr id A x w).2 (fJ x):=fun x _ w hw=>(uD x.2 w hw).mono (by rw[tV];omega);have wk1:∀x∈x1,∀w:WS,Gn fr w (cR fr id A x w).2:=fun x _ w=>je6 x w;have q1:=jQ (k:=A.length) x1 bh1 w hn0;have hn1:=q1.1.trans hn0;have hk1:=lF x1 wk1 w hw;have F1:=uH bh1 wk1 hn0 hw;generalize aX (cR fr id A) x1 w=R1 at hb q1 hn1 hk1 F1 ⊢;obtain⟨r1,w1⟩:=R1;simp only[Prod.mk.injEq]at hb q1 hn1 hk1 F1 ⊢;have wk2:∀x∈x2,∀w:WS,Gn fr w (dK fr id A x w).2:=fun x _ w=>je7 x w;have q2:=jQ (k:=A.length) x2 bh2 w1 hn1;have hn2:=q2.1.trans hn1;have hk2:=lF x2 wk2 w1 hk1;have F2:=uH bh2 wk2 hn1 hk1;generalize aX (dK fr id A) x2 w1=R2 at hb q2 hn2 hk2 F2 ⊢;obtain⟨r2,w2⟩:=R2;simp only[Prod.mk.injEq]at hb q2 hn2 hk2 F2 ⊢;have wk3:∀x∈x3,∀w:WS,Gn fr w (eD fr id A x w).2:=fun x _ w=>uG x.2 A w;have q3:=jQ (k:=A.length) x3 bh3 w2 hn2;have hn3:=q3.1.trans hn2;have hk3:=lF x3 wk3 w2 hk2;have F3:=uH bh3 wk3 hn2 hk2;generalize aX (eD fr id A) x3 w2=R3 at hb q3 hn3 hk3 F3 ⊢;obtain⟨r3,w3⟩:=R3;simp only[Prod.mk.injEq]at hb q3 hn3 hk3 F3 ⊢;have wk4:∀x∈x4,∀w:WS,Gn fr w (eT fr id A x w).2:=fun x _ w=>kp4 fun g=>kp4 (uG _ _ _) (uG _ _ _ g);have q4:=jQ (k:=A.length) x4 bh4 w3 hn3;have hn4:=q4.1.trans hn3;have hk4:=lF x4 wk4 w3 hk3;have F4:=uH bh4 wk4 hn3 hk3;generalize aX (eT fr id A) x4 w3=R4 at hb q4 hn4 hk4 F4 ⊢;obtain⟨r4,w4⟩:=R4;simp only[Prod.mk.injEq]at hb q4 hn4 hk4 F4 ⊢;have wk5:∀x∈x5,∀w:WS,Gn fr w (jB fr id A x w).2:=fun x _ w=>je8 x.2 w;have q5:=jQ (k:=A.length) x5 bh5 w4 hn4;have hn5:=q5.1.trans hn4;have hk5:=lF x5 wk5 w4 hk4;have F5:=uH bh5 wk5 hn4 hk4;generalize aX (jB fr id A) x5 w4=R5 at hb q5 hn5 hk5 F5 ⊢;obtain⟨r5,w5⟩:=R5;simp only[Prod.mk.injEq]at hb q5 hn5 hk5 F5 ⊢;have b4:=kA7 q5.2.1 hb;have b3:=kA7 q4.2.1 b4;have b2:=kA7 q3.2.1 b3;obtain⟨W5,X5,P5,s5,xl5,w50,x50,ax5,al5⟩:=F5 hb;obtain⟨W4,X4,P4,s4,xl4,w40,x40,ax4,al4⟩:=F4 b4;obtain⟨W3,X3,P3,s3,xl3,w30,x30,ax3,al3⟩:=F3 b3;obtain⟨W2,X2,P2,s2,xl2,w20,x20,ax2,al2⟩:=F2 b2;obtain⟨W1,X1,P1,s1,xl1,w10,x10,ax1,al1⟩:=F1 (kA7 q2.2.1 b2);have hr1:r1.length=x1.length:=by rw[ax1];exact xl1 _ (ks0 _)
 have hr2:r2.length=x2.length:=by rw[ax2];exact xl2 _ (ks0 _)
 have hr3:r3.length=x3.length:=by rw[ax3];exact xl3 _ (ks0 _)
 have hr4:r4.length=x4.length:=by rw[ax4];exact xl4 _ (ks0 _)
 have hr5:r5.length=x5.length:=by rw[ax5];exact xl5 _ (ks0 _)
 clear q1 q2 q3 q4 q5 hk1 hk2 hk3 hk4 hk5 hn1 hn2 hn3 hn4 hn5 b2 b3 b4;obtain⟨q,hq⟩:∃q,q=H.length:=⟨_,rfl⟩;have hl0:∀ov,(st H ov).length=q:=fun ov=>by rw[cD,hq]
 have hl:∀ov,(st (H.set a .dead) ov).length=q:=fun ov=>by rw[cD,ku4,hq]
 have hHq:(H.set a .dead).length=q:=by rw[ku4,hq]
 have hHc:Clo q (H.set a .dead):=hR.cloD (by omega);have hcq:c<q:=hq▸hR.c_;have haq:a<q:=hq▸hR.a_;have hmq:∀m∈ms,m<q:=hq▸hR.ms_;have hra:∀(js:List Nat) (b':Option Nat),bD (wr q js) (arO b' ms)=some (arO b' ms):=fun js b'=>sL hmq;have hco:∀(k:Nat) (b':Option Nat),bD (lt (q+k)) (arO b' ms)=some (arO b' ms)↔True:=fun k b'=>jf5 hmq;have hb0:=hR.b_;have ht:∀(u:Ty) (T:aB) (W:WS),tyn u<100000000→0≤W.next→(tyF fr id A u W).2.next<1000000000000000→Rg (H.set a .dead++T) c (q+4) ms b A W.nums→
   VC kp8 222 [.one (.ptr c 0),tyV u] (st (H.set a .dead++T) (cn c fr W.next (bdL b (q+4) ms.length) ms A W.nums)) fun r h'=>r=tyV (tyF fr id A u W).1∧h'=st (H.set a .dead++T) (cn c fr (tyF fr id A u W).2.next (bdL b (q+4) ms.length) ms A (tyF fr id A u W).2.nums):=
  fun u T W h1 h2 h3 h4=>je0 (by omega) hfr (tyn u) u (ks0 _) h1 _ W h4 h2 h3
 have e3:=kJ x3;have e4:=lT x4;have e5:=lU x5;simp only[stW,aA,kq1,kq5];refine aU mixed jM8 (by simp) ?_;show vwp kp8 (st H (cn c fr w.next (bdL b a ms.length) ms A w.nums)).length zz9 _ [(0,.one (.ptr c 0)),(1,.agg [.d (.sl (x1.map aD)),.d (.sl (x2.map aE)),.d (.sl (kq7 x3)),.d (.sl (kq8 x4)),.d (.sl (kq9 x5))])] (st H (cn c fr w.next (bdL b a ms.length) ms A w.nums));conv in zz9=>cbv
 rw[aO];simp -implicitDefEqProofs only[oS.d,J0,J1,J2,J3,J4,J5,J6,J7,J8,↓reduceIte,reduceCtorEq,hl0,wg0 (hl0 _),wgk (hl0 _),ws0 (hl0 _),wsk (hl0 _),bY (hl0 _),kr3,kr8,e3,e4,e5];refine bE (α:=Nat) (fun i=>[(26,.one (.d (.int .i64 i))),(25,.one (.d (.int .i64 x1.length))),(24,.one (.d (.sl (x1.map aD)))),(2,.one (.ptr q 0)),(3,.one (.ptr (q+1) 0)),(4,.one (.ptr (q+2) 0)),(5,.one (.ptr (q+3) 0))]) (fun i=>st (H.set a .dead) (cn c fr (W1 i).next (bdL b (q+4) ms.length) ms A (W1 i).nums)++[.box [.ptr c 0],.box [.d (.sl (x1.map aD)),.d (.sl (x2.map aE)),.d (.sl (kq7 x3)),.d (.sl (kq8 x4)),.d (.sl (kq9 x5))],.box [.nils,.nils,.nils,.nils,.nils],.box [.own (q+5) i i,.nils,.nils,.nils,.nils],arO b ms,.arr false 5 i ((X1 i).map aD)]) (fun i=>i≤x1.length) (fun i=>x1.length-i) 0 ?_ (kt1 _) ?_
 ·simp only[w10,x10];exact oA [] (mvs b c (q+4)++[(q+3,0,5)]) (wid q [0,1,2,3,4,5]) _ rfl (j84 hR hq.symm rfl rfl) (ko1 _) (gQ rfl) jV (gR hHq hHc (gT (j':=4) rfl) (by simp only[kr0,kr2,ku7,kv1,kr4,kr7,kt2,ks7,bA,kr6,ks4,jW,jX,jY,ks9,aG,hra,gP hcq,kt9,fD];rfl)) ⟨⟨_,ko0 _,rfl⟩,⟨_,ko0 _,rfl⟩,⟨_,ko0 _,rfl⟩,⟨_,ko0 _,kN⟩,⟨_,ko0 _,cP⟩,⟨_,ko0 _,cP⟩,⟨_,ko0 _,cP⟩,trivial⟩
 intro i hi;have hw1:=bQ (a:=i) rfl (by omega);have hXl:=xl1 i hi;rcases ks3 i x1.length with h5|h5
 case inl=>
  have hc:((i:Int)<(x1.length:Int))=True:=by simp;omega
  obtain⟨u,hu⟩:=bK h5;have hmu:=dB (f:=dC) (kq0 hu);have hcu:=qE u;have hg:(x1.map aD)[i]?=some (aD u):=by rw[ks1,hu];rfl
  have Pi:=P1 i;have Pj:=P1 (i+1);have hcap:(i+1)*80≤aV∧i+1≤aV:=by simp[aV];omega
  have hXt:((X1 i).map aD).take i=(X1 i).map aD:=kq6 (by rw[kr8];omega);obtain⟨hWs,hXs⟩:=s1 i u hu;simp only[cR]at hWs hXs;rw[←hWs]at Pj;have hbt:=qM (tk:=fr) (sb:=id) (A:=A) u.t (W1 i);have hcl:=eC (f:=ctn) (fun t=>by unfold ctn;omega) u.cts;have bhc:∀x∈u.cts,∀w:WS,w.nums.length=A.length→Bh w (ctF fr id A x w).2 (ctn x):=fun x _ w _=>zi0 x w;have wkc:∀x∈u.cts,∀w:WS,Gn fr w (ctF fr id A x w).2:=fun x _ w=>je5 x w;have hkt:=za3 (A:=A) (tk:=fr) (sb:=id) u.t (W1 i) Pi.2.1;have Pc:=uH bhc wkc (hbt.1.trans Pi.1) hkt Pj.2.2;have hbc:=(jQ (k:=A.length) u.cts bhc _ (hbt.1.trans Pi.1)).2.1;have t1:=fun T=>ht u.t T (W1 i) (by omega) Pi.2.1.2.2 (kA7 hbc Pj.2.2);clear hbt hkt hbc Pj hu;generalize tyF fr id A u.t (W1 i)=R at t1 Pc hWs hXs ⊢;obtain⟨⟨rk,rn,rl⟩,S1⟩:=R;obtain⟨V,Y,Pc,sc,xlc,v0,y0,ac⟩:=Pc;obtain⟨un,⟨uk,ui,ul⟩,uc⟩:=u;simp only at ac hWs hXs;rw[ac]at hWs hXs;simp only[tyV,aF,aD,kq1,kq5,kr0,kr2]at t1 hg hcu hcl hWs ⊢;simp -implicitDefEqProofs only[oS.d,J0,J1,J2,J3,J4,J5,J6,J7,J8,↓reduceIte,reduceCtorEq,hc,hg,hl,wg0 (hl _),wgk (hl _),ws0 (hl _),wsk (hl _),bY (hl _),kr3,kq2,kq4];refine⟨?_,?_⟩;all_goals
   refine zM3 (j:=4) hR hq.symm (by simp only[dS,eE,eM,fP,fQ,hco,fB,fU,fV,fW,fX,eA,fY,fZ,eN,gA,gB,kt7,ku1,false_implies,implies_true,and_true,true_and,and_self,kr4,kr7,kt2,ks7]<;>omega) rfl hb0 (by rw[Pi.1,hn0]) (by simp only[dS,eE,eM,fP,fQ,fB,fU,fV,fW,fX,eA,fY,fZ,eN,gA,gB,kt7,ku1,false_implies,implies_true,and_true,true_and,and_self,kr4,kr7,kt2,ks7]<;>omega) (fun h=>t1 _ h) ?_;simp -implicitDefEqProofs only[oS.d,J0,J1,J2,J3,J4,J5,J6,J7,J8,↓reduceIte,reduceCtorEq,hc,hg,hl,wg0 (hl _),wgk (hl _),ws0 (hl _),wsk (hl _),bY (hl _),kr3,kq2,kq4,kr8];refine bE (α:=Nat) (fun k=>[(40,.one (.d (.int .i64 k))),(39,.one (.d (.int .i64 uc.length))),(38,.one (.d (.sl (uc.map bC)))),(8,.one (.ptr (q+7) 0)),(26,.one (.d (.int .i64 i))),(25,.one (.d (.int .i64 x1.length))),(24,.one (.d (.sl (x1.map aD)))),(2,.one (.ptr q 0)),(3,.one (.ptr (q+1) 0)),(4,.one (.ptr (q+2) 0)),(5,.one (.ptr (q+3) 0))]) (fun k=>st (H.set a .dead) (cn c fr (V k).next (bdL b (q+4) ms.length) ms A (V k).nums)++[.box [.ptr c 0],.box [.d (.sl (x1.map aD)),.d (.sl (x2.map aE)),.d (.sl (kq7 x3)),.d (.sl (kq8 x4)),.d (.sl (kq9 x5))],.box [.nils,.nils,.nils,.nils,.nils],.box [.own (q+5) i i,.nils,.nils,.nils,.nils],arO b ms,.arr false 5 i ((X1 i).map aD),.box [.d (.str un),.d (.int .i64 uk),.d (.int .i64 ui),.d (.sl (ks8 ul)),.d (.sl (uc.map bC))],.box [.d (.str un),.d (.int .i64 rk),.d (.int .i64 rn),.d (.sl (ks8 rl)),.own (q+8) k k],.arr false 2 k ((Y k).map bC)]) (fun k=>k≤uc.length) (fun k=>uc.length-k) 0 ?_ (kt1 _) ?_
   ·simp only[v0,y0];exact oA [] [(q+7,4,2)] (wid q [0,1,2,3,4,5,6,7,8]) _ rfl (uI (hl _) rfl rfl) (ko1 _) (gQ rfl) jV (gR hHq hHc (gT (j':=4) rfl) (by simp only[kr0,kr2,ku7,kv1,kr4,kr7,kt2,ks7,bA,kr6,ks4,jW,jX,jY,ks9,aG,hra,gP hcq,kt9,fD];rfl)) ⟨⟨_,ko0 _,rfl⟩,⟨_,ko0 _,rfl⟩,⟨_,ko0 _,rfl⟩,⟨_,ko0 _,cP⟩,⟨_,ko0 _,rfl⟩,⟨_,ko0 _,rfl⟩,⟨_,ko0 _,rfl⟩,⟨_,ko0 _,kN⟩,⟨_,ko0 _,cP⟩,⟨_,ko0 _,cP⟩,⟨_,ko0 _,cP⟩,trivial⟩
   intro k hk;have hwk:=bQ (a:=k) rfl (by omega);have hYl:=xlc k hk;have hYt:((Y k).map bC).take k=(Y k).map bC:=kq6 (by rw[kr8];omega);rcases ks3 k uc.length with h6|h6
   ·have hck:((k:Int)<(uc.length:Int))=True:=by simp;omega
    obtain⟨d,hd⟩:=bK h6;have hmd:=dB (f:=ctn) (kq0 hd);have hcd:=tW d;have hgc:(uc.map bC)[k]?=some (bC d):=by rw[ks1,hd];rfl
    have Pk:=Pc k;have Pl:=Pc (k+1);obtain⟨hVs,hYs⟩:=sc k d hd;simp only[ctF,lE]at hVs hYs;rw[←hVs]at Pl;have hcapk:(k+1)*40≤aV∧k+1≤aV:=by simp[aV];omega
    have hcln:=eC (f:=tyn) (fun t=>by cases t;simp[tyn]) d.args;obtain⟨U,Z,Pa,sa,xla,u0,z0,aa⟩:=uH (fun x _ w _=>qM x w) (fun x _ w=>za3 x w) Pk.1 Pk.2.1 Pl.2.2;rw[aa]at hVs hYs;clear hd Pl;obtain⟨cn0,cl⟩:=d;simp only[bC]at hgc hcd hcln hmd hVs hYs sa xla ⊢;simp -implicitDefEqProofs only[oS.d,J0,J1,J2,J3,J4,J5,J6,J7,J8,↓reduceIte,reduceCtorEq,hck,hgc,hl,wg0 (hl _),wgk (hl _),ws0 (hl _),wsk (hl _),bY (hl _),kr3,kq2,kq4,kr8,cS];refine bE (α:=Nat) (fun n=>[(50,.one (.d (.int .i64 n))),(49,.one (.d (.int .i64 cl.length))),(48,.one (.d (.sl (ks8 cl)))),(11,.one (.ptr (q+10) 0)),(40,.one (.d (.int .i64 k))),(39,.one (.d (.int .i64 uc.length))),(38,.one (.d (.sl (uc.map bC)))),(8,.one (.ptr (q+7) 0)),(26,.one (.d (.int .i64 i))),(25,.one (.d (.int .i64 x1.length))),(24,.one (.d (.sl (x1.map aD)))),(2,.one (.ptr q 0)),(3,.one (.ptr (q+1) 0)),(4,.one (.ptr (q+2) 0)),(5,.one (.ptr (q+3) 0))]) (fun n=>st (H.set a .dead) (cn c fr (U n).next (bdL b (q+4) ms.length) ms A (U n).nums)++[.box [.ptr c 0],.box [.d (.sl (x1.map aD)),.d (.sl (x2.map aE)),.d (.sl (kq7 x3)),.d (.sl (kq8 x4)),.d (.sl (kq9 x5))],.box [.nils,.nils,.nils,.nils,.nils],.box [.own (q+5) i i,.nils,.nils,.nils,.nils],arO b ms,.arr false 5 i ((X1 i).map aD),.box [.d (.str un),.d (.int .i64 uk),.d (.int .i64 ui),.d (.sl (ks8 ul)),.d (.sl (uc.map bC))],.box [.d (.str un),.d (.int .i64 rk),.d (.int .i64 rn),.d (.sl (ks8 rl)),.own (q+8) k k],.arr false 2 k ((Y k).map bC),.box [.d (.str cn0),.d (.sl (ks8 cl))],.box [.d (.str cn0),.own (q+11) n n],.arr false 3 n (ks8 (Z n))]) (fun n=>n≤cl.length) (fun n=>cl.length-n) 0 ?_ (kt1 _) ?_
    ·simp only[u0,z0];exact oA [] [(q+10,1,3)] (wid q [0,1,2,3,4,5,6,7,8,9,10,11]) _ rfl (uI (hl _) rfl rfl) (ko1 _) (gQ rfl) jV (gR hHq hHc (gT (j':=4) rfl) (by simp only[kr0,kr2,ku7,kv1,kr4,kr7,kt2,ks7,bA,kr6,ks4,jW,jX,jY,ks9,aG,hra,gP hcq,kt9,fD];rfl)) ⟨⟨_,ko0 _,rfl⟩,⟨_,ko0 _,rfl⟩,⟨_,ko0 _,rfl⟩,⟨_,ko0 _,cP⟩,⟨_,ko0 _,rfl⟩,⟨_,ko0 _,rfl⟩,⟨_,ko0 _,rfl⟩,⟨_,ko0 _,cP⟩,⟨_,ko0 _,rfl⟩,⟨_,ko0 _,rfl⟩,⟨_,ko0 _,rfl⟩,⟨_,ko0 _,kN⟩,⟨_,ko0 _,cP⟩,⟨_,ko0 _,cP⟩,⟨_,ko0 _,cP⟩,trivial⟩
    intro n hn;have hwn:=bQ (a:=n) rfl (by omega);have hZl:=xla n hn;have htk:(ks8 (Z n)).take n=ks8 (Z n):=kq6 (by rw[cS];omega);rcases ks3 n cl.length with h7|h7
    ·have hcn:((n:Int)<(cl.length:Int))=True:=by simp;omega
     obtain⟨g,hgg⟩:=bK h7;have hmg:=dB (f:=tyn) (kq0 hgg);have hga:(ks8 cl)[n]?=some (aF g):=by rw[eI,ks1,hgg];rfl
     have Pn:=Pa n;have Pm:=Pa (n+1);obtain⟨hUs,hZs⟩:=sa n g hgg;have hcapn:(n+1)*40≤aV∧n+1≤aV:=by simp[aV];omega
     have t2:=fun T=>ht g T (U n) (by omega) Pn.2.1.2.2 (by rw[hUs];exact Pm.2.2);rw[hUs]at t2;generalize (tyF fr id A g (U n)).1=R at t2 hZs;obtain⟨rk2,rn2,rl2⟩:=R;clear hgg Pm;obtain⟨gk,gi,gl⟩:=g;have hrow:ks8 (Z n)++[[.int .i64 rk2,.int .i64 rn2,.sl (ks8 rl2)]]=ks8 (Z (n+1)):=by rw[hZs];simp[eI,aF]
     simp only[tyV,aF,kq1,kq5]at t2 hga ⊢;simp -implicitDefEqProofs only[oS.d,J0,J1,J2,J3,J4,J5,J6,J7,J8,↓reduceIte,reduceCtorEq,hcn,hga,hl,wg0 (hl _),wgk (hl _),ws0 (hl _),wsk (hl _),bY (hl _),kr3,kq2,kq4,kr8,cS];refine zM3 (j:=4) hR hq.symm (by simp only[dS,eE,eM,fP,fQ,hco,fB,fU,fV,fW,fX,eA,fY,fZ,eN,gA,gB,kt7,ku1,false_implies,implies_true,and_true,true_and,and_self,kr4,kr7,kt2,ks7]<;>omega) rfl hb0 (by rw[Pn.1,hn0]) (by simp only[dS,eE,eM,fP,fQ,fB,fU,fV,fW,fX,eA,fY,fZ,eN,gA,gB,kt7,ku1,false_implies,implies_true,and_true,true_and,and_self,kr4,kr7,kt2,ks7]<;>omega) (fun h=>t2 _ h) ?_;simp -implicitDefEqProofs only[oS.d,J0,J1,J2,J3,J4,J5,J6,J7,J8,↓reduceIte,reduceCtorEq,hcn,hga,hcapn,htk,hrow,hwn,hl,wg0 (hl _),wgk (hl _),ws0 (hl _),wsk (hl _),bY (hl _),kr3,kq2,kq4,kr8,cS];refine⟨n+1,by omega,by omega,?_⟩;exact gJ (wid q [0,1,2,3,4,5,6,7,8,9,10,11]) _ (ko1 _) (gQ rfl) jV (gR hHq hHc (gT (j':=4) rfl) (by simp only[kr0,kr2,ku7,kv1,kr4,kr7,kt2,ks7,bA,kr6,ks4,jW,jX,jY,ks9,aG,hra,gP hcq,kt9,fD];rfl)) ⟨⟨_,ko0 _,rfl⟩,⟨_,ko0 _,rfl⟩,⟨_,ko0 _,rfl⟩,⟨_,ko0 _,cP⟩,⟨_,ko0 _,rfl⟩,⟨_,ko0 _,rfl⟩,⟨_,ko0 _,rfl⟩,⟨_,ko0 _,cP⟩,⟨_,ko0 _,rfl⟩,⟨_,ko0 _,rfl⟩,⟨_,ko0 _,rfl⟩,⟨_,ko0 _,kN⟩,⟨_,ko0 _,cP⟩,⟨_,ko0 _,cP⟩,⟨_,ko0 _,cP⟩,trivial⟩
    ·have hcn:((n:Int)<(cl.length:Int))=False:=by simp;omega
     have hne:n=cl.length:=by omega
     subst hne;have hrow:(Y k).map bC++[[.str cn0,.sl (ks8 (Z cl.length))]]=(Y (k+1)).map bC:=by rw[hYs];simp[bC]
     simp -implicitDefEqProofs only[oS.d,J0,J1,J2,J3,J4,J5,J6,J7,J8,↓reduceIte,reduceCtorEq,hcn,hcapk,hYt,htk,hwk,hrow,hl,wg0 (hl _),wgk (hl _),ws0 (hl _),wsk (hl _),bY (hl _),kr3,kq2,kq4,kr8,cS];rw[hVs];refine⟨k+1,by omega,by omega,?_⟩;exact gJ (wid q [0,1,2,3,4,5,6,7,8]) _ (ko1 _) (gQ rfl) jV (gR hHq hHc (gT (j':=4) rfl) (by simp only[kr0,kr2,ku7,kv1,kr4,kr7,kt2,ks7,bA,kr6,ks4,jW,jX,jY,ks9,aG,hra,gP hcq,kt9,fD];rfl)) ⟨⟨_,ko0 _,rfl⟩,⟨_,ko0 _,rfl⟩,⟨_,ko0 _,rfl⟩,⟨_,ko0 _,cP⟩,⟨_,ko0 _,rfl⟩,⟨_,ko0 _,rfl⟩,⟨_,ko0 _,rfl⟩,⟨_,ko0 _,kN⟩,⟨_,ko0 _,cP⟩,⟨_,ko0 _,cP⟩,⟨_,ko0 _,cP⟩,trivial⟩
   ·have hck:((k:Int)<(uc.length:Int))=False:=by simp;omega
    have hke:k=uc.length:=by omega
    subst hke;have hrow:(X1 i).map aD++[[.str un,.int .i64 rk,.int .i64 rn,.sl (ks8 rl),.sl ((Y uc.length).map bC)]]=(X1 (i+1)).map aD:=by rw[hXs];simp[aD,aF]
    simp -implicitDefEqProofs only[oS.d,J0,J1,J2,J3,J4,J5,J6,J7,J8,↓reduceIte,reduceCtorEq,hck,hcap,hXt,hYt,hw1,hrow,hl,wg0 (hl _),wgk (hl _),ws0 (hl _),wsk (hl _),bY (hl _),kr3,kq2,kq4,kr8,cS];rw[hWs];refine⟨i+1,by omega,by omega,?_⟩;exact gJ (wid q [0,1,2,3,4,5]) _ (ko1 _) (gQ rfl) jV (gR hHq hHc (gT (j':=4) rfl) (by simp only[kr0,kr2,ku7,kv1,kr4,kr7,kt2,ks7,bA,kr6,ks4,jW,jX,jY,ks9,aG,hra,gP hcq,kt9,fD];rfl)) ⟨⟨_,ko0 _,rfl⟩,⟨_,ko0 _,rfl⟩,⟨_,ko0 _,rfl⟩,⟨_,ko0 _,kN⟩,⟨_,ko0 _,cP⟩,⟨_,ko0 _,cP⟩,⟨_,ko0 _,cP⟩,trivial⟩
 have hc:((i:Int)<(x1.length:Int))=False:=by simp;omega
 have hie:i=x1.length:=by omega
 subst hie;rw[←al1,←ax1]at *;simp -implicitDefEqProofs only[oS.d,J0,J1,J2,J3,J4,J5,J6,J7,J8,↓reduceIte,reduceCtorEq,hc,hl,wg0 (hl _),wgk (hl _),ws0 (hl _),wsk (hl _),bY (hl _),kr3,kr8];refine bE (α:=Nat) (fun i=>[(80,.one (.d (.int .i64 i))),(79,.one (.d (.int .i64 x2.length))),(78,.one (.d (.sl (x2.map aE)))),(2,.one (.ptr q 0)),(3,.one (.ptr (q+1) 0)),(4,.one (.ptr (q+2) 0)),(5,.one (.ptr (q+3) 0))]) (fun i=>st (H.set a .dead) (cn c fr (W2 i).next (bdL b (q+4) ms.length) ms A (W2 i).nums)++[.box [.ptr c 0],.box [.d (.sl (x1.map aD)),.d (.sl (x2.map aE)),.d (.sl (kq7 x3)),.d (.sl (kq8 x4)),.d (.sl (kq9 x5))],.box [.nils,.nils,.nils,.nils,.nils],.box [.own (q+5) x1.length x1.length,.own (q+6) i i,.nils,.nils,.nils],arO b ms,.arr false 5 x1.length (r1.map aD),.arr false 5 i ((X2 i).map aE)]) (fun i=>i≤x2.length) (fun i=>x2.length-i) 0 ?_ (kt1 _) ?_
 ·simp only[w20,x20];exact oA [] [(q+3,1,5)] (wid q [0,1,2,3,4,5,6]) _ rfl (uI (hl _) rfl rfl) (ko1 _) (gQ rfl) jV (gR hHq hHc (gT (j':=4) rfl) (by simp only[kr0,kr2,ku7,kv1,kr4,kr7,kt2,ks7,bA,kr6,ks4,jW,jX,jY,ks9,aG,hra,gP hcq,kt9,fD];rfl)) ⟨⟨_,ko0 _,rfl⟩,⟨_,ko0 _,rfl⟩,⟨_,ko0 _,rfl⟩,⟨_,ko0 _,kN⟩,⟨_,ko0 _,cP⟩,⟨_,ko0 _,cP⟩,⟨_,ko0 _,cP⟩,trivial⟩
 clear hi hc hw1 h5 hXl P1 s1 xl1;intro i hi;have hw1:=bQ (a:=i) rfl (by omega);have hXl:=xl2 i hi;have hXt:((X2 i).map aE).take i=(X2 i).map aE:=kq6 (by rw[kr8];omega);rcases ks3 i x2.length with h5|h5
 ·have hc:((i:Int)<(x2.length:Int))=True:=by simp;omega
  obtain⟨u,hu⟩:=bK h5;have hmu:=dB (f:=dJ) (kq0 hu);have hcu:=wD u;have hg:(x2.map aE)[i]?=some (aE u):=by rw[ks1,hu];rfl
  have Pi:=P2 i;have Pj:=P2 (i+1);have hcap:(i+1)*64≤aV∧i+1≤aV:=by simp[aV];omega
  obtain⟨hWs,hXs⟩:=s2 i u hu;simp only[dK]at hWs hXs;have t1:=fun T=>ht u.s.t T (W2 i) (by omega) Pi.2.1.2.2 (by rw[hWs];exact Pj.2.2);rw[hWs]at t1;generalize (tyF fr id A u.s.t (W2 i)).1=R at t1 hXs;obtain⟨rk,rn,rl⟩:=R;clear hu Pj;obtain⟨un,ug,⟨uk,ui,ul⟩⟩:=u;have hrow:(X2 i).map aE++[[.str un,.int .i64 ug,.int .i64 rk,.int .i64 rn,.sl (ks8 rl)]]=(X2 (i+1)).map aE:=by rw[hXs];simp[aE,cZ,aF]
  simp only[tyV,aF,aE,cZ,kq1,kq5,kr0,kr2]at t1 hg ⊢;simp -implicitDefEqProofs only[oS.d,J0,J1,J2,J3,J4,J5,J6,J7,J8,↓reduceIte,reduceCtorEq,hc,hg,hl,wg0 (hl _),wgk (hl _),ws0 (hl _),wsk (hl _),bY (hl _),kr3,kq2,kq4,kr8,cS];refine zM3 (j:=4) hR hq.symm (by simp only[dS,eE,eM,fP,fQ,hco,fB,fU,fV,fW,fX,eA,fY,fZ,eN,gA,gB,kt7,ku1,false_implies,implies_true,and_true,true_and,and_self,kr4,kr7,kt2,ks7]<;>omega) rfl hb0 (by rw[Pi.1,hn0]) (by simp only[dS,eE,eM,fP,fQ,fB,fU,fV,fW,fX,eA,fY,fZ,eN,gA,gB,kt7,ku1,false_implies,implies_true,and_true,true_and,and_self,kr4,kr7,kt2,ks7]<;>omega) (fun h=>t1 _ h) ?_;simp -implicitDefEqProofs only[oS.d,J0,J1,J2,J3,J4,J5,J6,J7,J8,↓reduceIte,reduceCtorEq,hc,hcap,hXt,hw1,hrow,hl,wg0 (hl _),wgk (hl _),ws0 (hl _),wsk (hl _),bY (hl _),kr3,kq2,kq4,kr8,cS];refine⟨i+1,by omega,by omega,?_⟩;exact gJ (wid q [0,1,2,3,4,5,6]) _ (ko1 _) (gQ rfl) jV (gR hHq hHc (gT (j':=4) rfl) (by simp only[kr0,kr2,ku7,kv1,kr4,kr7,kt2,ks7,bA,kr6,ks4,jW,jX,jY,ks9,aG,hra,gP hcq,kt9,fD];rfl)) ⟨⟨_,ko0 _,rfl⟩,⟨_,ko0 _,rfl⟩,⟨_,ko0 _,rfl⟩,⟨_,ko0 _,kN⟩,⟨_,ko0 _,cP⟩,⟨_,ko0 _,cP⟩,⟨_,ko0 _,cP⟩,trivial⟩
 have hc:((i:Int)<(x2.length:Int))=False:=by simp;omega
 have hie:i=x2.length:=by omega
 subst hie;rw[←al2,←ax2]at *;simp -implicitDefEqProofs only[oS.d,J0,J1,J2,J3,J4,J5,J6,J7,J8,↓reduceIte,reduceCtorEq,hc,hl,wg0 (hl _),wgk (hl _),ws0 (hl _),wsk (hl _),bY (hl _),kr3];clear hi hc hw1 h5 hXl hXt P2 s2 xl2 ht;refine nZ [(q+3,2,6)] _ (st (H.set a .dead) (cn c fr w2.next (bdL b (q+4) ms.length) ms A w2.nums)++[.box [.ptr c 0],.box [.d (.sl (x1.map aD)),.d (.sl (x2.map aE)),.d (.sl (kq7 x3)),.d (.sl (kq8 x4)),.d (.sl (kq9 x5))],.box [.nils,.nils,.nils,.nils,.nils],.box [.own (q+5) x1.length x1.length,.own (q+6) x2.length x2.length,.own (q+7) 0 0,.nils,.nils],arO b ms,.arr false 5 x1.length (r1.map aD),.arr false 5 x2.length (r2.map aE),.arr false 6 0 []]) [] (by rw[uI (hl _) rfl rfl];rfl) (ko6 _) (ko1 _) (zj2 x1 x2 x3 x4 x5) rfl rfl rfl ?_;rintro _ _ ⟨rfl,rfl⟩;refine⟨.one (.fn 229 [.ptr (q+8) 0]),st (H.set a .dead) (cn c fr w2.next (bdL b (q+4) ms.length) ms A w2.nums)++[.box [.ptr c 0],.box [.d (.sl (x1.map aD)),.d (.sl (x2.map aE)),.d (.sl (kq7 x3)),.d (.sl (kq8 x4)),.d (.sl (kq9 x5))],.box [.nils,.nils,.nils,.nils,.nils],.box [.own (q+5) x1.length x1.length,.own (q+6) x2.length x2.length,.own (q+7) 0 0,.nils,.nils],arO b ms,.arr false 5 x1.length (r1.map aD),.arr false 5 x2.length (r2.map aE),.arr false 6 0 [],.box [.d (.sl (x1.map aD)),.d (.sl (x2.map aE)),.d (.sl (kq7 x3)),.d (.sl (kq8 x4)),.d (.sl (kq9 x5))]],by simp[mE,hJ,aG,ks9,jN,bD,dN,bY (hl _),eV,eB,dM,mD,lK,kU,idx],?_⟩;simp -implicitDefEqProofs only[oS.d,J0,J1,J2,J3,J4,J5,J6,J7,J8,↓reduceIte,reduceCtorEq,hl,wg0 (hl _),wgk (hl _),ws0 (hl _),wsk (hl _),bY (hl _),kr3];show vwp _ _ _ _ _ _;refine⟨229,[.ptr (q+8) 0],20,_,rfl,by simp[dX,wgk (hl _)],zi9,by simp,?_⟩;rw[bY (hl _)];simp only[kr4,kr7,kt2,ks7];refine jc1 (α:=Nat×Option Nat) (x3:=x3) (N:=q+10) (by omega) (fun s=>st (H.set a .dead) (cn c fr (W3 s.1).next (bdL s.2 (q+9) ms.length) ms A (W3 s.1).nums)++[.box [.ptr c 0],.box [.d (.sl (x1.map aD)),.d (.sl (x2.map aE)),.d (.sl (kq7 x3)),.d (.sl (kq8 x4)),.d (.sl (kq9 x5))],.box [.nils,.nils,.nils,.nils,.nils],.box [.own (q+5) x1.length x1.length,.own (q+6) x2.length x2.length,.own (q+7) s.1 s.1,.nils,.nils],.dead,.arr false 5 x1.length (r1.map aD),.arr false 5 x2.length (r2.map aE),.arr false 6 s.1 (kq7 (X3 s.1)),.box [.d (.sl (x1.map aD)),.d (.sl (x2.map aE)),.d (.sl (kq7 x3)),.d (.sl (kq8 x4)),.d (.sl (kq9 x5))],arO s.2 ms]) (fun i s=>s.1=i∧i≤x3.length∧(s.2=none→ms=[])) (id:=q+8) (by omega) (fun s=>bY (hl _)) ?_ ?_ (0,b) ⟨rfl,kt1 _,hb0⟩ (by rw[wgk (hl _)];rfl) (mvs b c (q+9)) (j85 hR hq.symm rfl) ?_
 rotate_left 2
 ·simp only[w30,x30];exact⟨wid q [0,1,2,3,4,5,6,7,8,9],gQ rfl,zj7 rfl,gR hHq hHc (gT (j':=9) rfl) (by simp only[kr0,kr2,ku7,kv1,kr4,kr7,kt2,ks7,bA,kr6,ks4,jW,jX,jY,ks9,aG,hra,gP hcq,kt9,fD];rfl)⟩
 ·rintro i x ⟨i,b1⟩ hx ⟨rfl,hi,hb1⟩ K' hK;refine⟨rfl,?_⟩;rw[aO];dsimp only at hb1 hK ⊢;have hmem:=kq0 hx;have hmu:=dB (f:=eZ) hmem;have hcu:=tU x;have hil:=(kp9.1 hx).1;have Pi:=P3 i;have Pj:=P3 (i+1);have hXl:=xl3 i hi;obtain⟨hWs,hXs⟩:=s3 i x hx;simp only[eD]at hWs hXs;have t1:=fun T (h:Rg T c (q+9) ms b1 A (W3 i).nums)=>H3 x hmem T c (q+9) ms b1 A (W3 i) h (by omega) Pi.2.1 (by rw[hWs];exact Pj.2.2);rw[hWs]at t1;generalize (aS fr id A x.2 (W3 i)).1=R at t1 hXs;obtain⟨m1,m2,m3,m4,m5⟩:=R;have hcap:(i+1)*136≤aV∧i+1≤aV:=by simp[aV];omega
  clear hx hmem hmu hcu Pj;obtain⟨xn,⟨u1,u2,u3,u4,u5⟩⟩:=x;have hls:(kq7 (X3 i)).length=i:=by rw[kJ,hXl]
  have htk:(kq7 (X3 i)).take i=kq7 (X3 i):=kq6 (by omega);have hget:∀z,(kq7 (X3 i)++[z])[i]?=some z:=fun z=>by rw[kr5 (by omega),hls];simp
  have hset:∀z z',(kq7 (X3 i)++[z]).set i z'=kq7 (X3 i)++[z']:=fun z z'=>by rw[kx2 _ _ (by omega),hls];simp
  have hlt:(i:Int)<((i+1:Nat):Int):=by omega
  have hrow:kq7 (X3 i)++[[.str xn,.sl (m1.map aD),.sl (m2.map aE),.sl (kq7 m3),.sl (kq8 m4),.sl (kq9 m5)]]=kq7 (X3 (i+1)):=by rw[hXs];simp[qA,cA,aA]
  simp only[stW,cA,aA,kq1,kq5]at t1 ⊢;simp -implicitDefEqProofs only[oS.d,J0,J1,J2,J3,J4,J5,J6,J7,J8,↓reduceIte,reduceCtorEq,mG,hl,wg0 (hl _),wgk (hl _),ws0 (hl _),wsk (hl _),bY (hl _),kr3,kq2,kq4,kr8,cS];rw[tX,aO];simp -implicitDefEqProofs only[oS.d,J0,J1,J2,J3,J4,J5,J6,J7,J8,↓reduceIte,reduceCtorEq,hcap,zj0,hl,wg0 (hl _),wgk (hl _),ws0 (hl _),wsk (hl _),bY (hl _),kr3,kq2,kq4,kr8,cS];refine⟨?_,?_⟩;all_goals
   refine zM2 (j:=9) hR hq.symm (by simp only[dS,eE,eM,fP,fQ,hco,fB,fU,fV,fW,fX,eA,fY,fZ,eN,gA,gB,kt7,ku1,false_implies,implies_true,and_true,true_and,and_self,kr4,kr7,kt2,ks7]<;>omega) rfl hb1 (by rw[Pi.1,hn0]) (by simp only[dS,eE,eM,fP,fQ,fB,fU,fV,fW,fX,eA,fY,fZ,eN,gA,gB,kt7,ku1,false_implies,implies_true,and_true,true_and,and_self,kr4,kr7,kt2,ks7]<;>omega) (fun h=>t1 _ h) ?_;intro b2 hb2;simp -implicitDefEqProofs only[oS.d,J0,J1,J2,J3,J4,J5,J6,J7,J8,↓reduceIte,reduceCtorEq,hcap,htk,zj0,hlt,hget,hset,hrow,hl,wg0 (hl _),wgk (hl _),ws0 (hl _),wsk (hl _),bY (hl _),kr3,kq2,kq4,kr8,cS];first
   |exact hK (i+1,b2) _ ⟨rfl,by omega,hb2⟩ ⟨wid q [0,1,2,3,4,5,6,7,8,12],gQ rfl,zj7 rfl,gR hHq hHc (gT (j':=9) rfl) (by simp only[kr0,kr2,ku7,kv1,kr4,kr7,kt2,ks7,bA,kr6,ks4,jW,jX,jY,ks9,aG,hra,gP hcq,kt9,fD];rfl)⟩
   |exact hK (i+1,b2) _ ⟨rfl,by omega,hb2⟩ ⟨wid q [0,1,2,3,4,5,6,7,8,13],gQ rfl,zj7 rfl,gR hHq hHc (gT (j':=9) rfl) (by simp only[kr0,kr2,ku7,kv1,kr4,kr7,kt2,ks7,bA,kr6,ks4,jW,jX,jY,ks9,aG,hra,gP hcq,kt9,fD];rfl)⟩
 rintro⟨i,b1⟩ ⟨rfl,hi,hb1⟩;dsimp only at hb1 ⊢;rw[←al3,←ax3]at *;simp -implicitDefEqProofs only[oS.d,J0,J1,J2,J3,J4,J5,J6,J7,J8,↓reduceIte,reduceCtorEq,hl,wg0 (hl _),wgk (hl _),ws0 (hl _),wsk (hl _),bY (hl _),kr3,e4,e5];refine bE (α:=Nat×Option Nat) (fun s=>[(121,.one (.d (.int .i64 s.1))),(120,.one (.d (.int .i64 x4.length))),(119,.one (.d (.sl (kq8 x4)))),(2,.one (.ptr q 0)),(3,.one (.ptr (q+1) 0)),(4,.one (.ptr (q+2) 0)),(5,.one (.ptr (q+3) 0))]) (fun s=>st (H.set a .dead) (cn c fr (W4 s.1).next (bdL s.2 (q+4) ms.length) ms A (W4 s.1).nums)++[.box [.ptr c 0],.box [.d (.sl (x1.map aD)),.d (.sl (x2.map aE)),.d (.sl (kq7 x3)),.d (.sl (kq8 x4)),.d (.sl (kq9 x5))],.box [.nils,.nils,.nils,.nils,.nils],.box [.own (q+5) x1.length x1.length,.own (q+6) x2.length x2.length,.own (q+7) x3.length x3.length,.own (q+8) s.1 s.1,.nils],arO s.2 ms,.arr false 5 x1.length (r1.map aD),.arr false 5 x2.length (r2.map aE),.arr false 6 x3.length (kq7 r3),.arr false 13 s.1 (kq8 (X4 s.1))]) (fun s=>s.1≤x4.length∧(s.2=none→ms=[])) (fun s=>x4.length-s.1) (0,b1) ?_ ⟨kt1 _,hb1⟩ ?_
 ·simp only[w40,x40];exact oA [] [(q+3,3,13)] (wid q [0,1,2,3,9,5,6,7,10]) _ rfl (uI (hl _) rfl rfl) (ko1 _) (gQ rfl) jV (gR hHq hHc (gT (j':=4) rfl) (by simp only[kr0,kr2,ku7,kv1,kr4,kr7,kt2,ks7,bA,kr6,ks4,jW,jX,jY,ks9,aG,hra,gP hcq,kt9,fD];rfl)) ⟨⟨_,ko0 _,rfl⟩,⟨_,ko0 _,rfl⟩,⟨_,ko0 _,rfl⟩,⟨_,ko0 _,kN⟩,⟨_,ko0 _,cP⟩,⟨_,ko0 _,cP⟩,⟨_,ko0 _,cP⟩,trivial⟩
 clear hi hb1 P3 s3 xl3;rintro⟨i,b1⟩ ⟨hi,hb1⟩;dsimp only at hi hb1 ⊢;have hw1:=bQ (a:=i) rfl (by omega);have hXl:=xl4 i hi;have hls:(kq8 (X4 i)).length=i:=by rw[lT,hXl]
 have htk:(kq8 (X4 i)).take i=kq8 (X4 i):=kq6 (by omega);rcases ks3 i x4.length with h5|h5
 ·have hc:((i:Int)<(x4.length:Int))=True:=by simp;omega
  obtain⟨u,hu⟩:=bK h5;have hmem:=kq0 hu;have hmu:=dB (f:=eQ) hmem;have hcu:=qH u;have hg:(kq8 x4)[i]?=some (bW u):=by rw[lR,ks1,hu];rfl
  have Pi:=P4 i;have Pj:=P4 (i+1);obtain⟨hWs,hXs⟩:=s4 i u hu;simp only[eT]at hWs hXs;have hWn:(W4 i).nums.length=ms.length:=Pi.1.trans hlA;have hnum:(aQ u.2.1.length (W4 i)).nums.length=(A++u.2.1).length:=eS Pi.1;have k1:=kM (tk:=fr) (sb:=id) u.2.2.1 (A++u.2.1) _ hnum;have k2:=uD (tk:=fr) (sb:=id) (A:=A++u.2.1) u.2.2.2 (aS fr id (A++u.2.1) u.2.2.1 (aQ u.2.1.length (W4 i))).2 (k1.1.trans hnum);have hw2:(cL fr id (A++u.2.1) u.2.2.2 (aS fr id (A++u.2.1) u.2.2.1 (aQ u.2.1.length (W4 i))).2).2.nums.length=ms.length+u.2.1.length:=by rw[k2.1,k1.1,hnum,kq3,hlA]
  have hwk2:WOk fr (cL fr id (A++u.2.1) u.2.2.2 (aS fr id (A++u.2.1) u.2.2.1 (aQ u.2.1.length (W4 i))).2).2:=je8 u.2.2.2 _ (uG u.2.2.1 _ _ Pi.2.1.enter);have hnot:∀k,q+k≠c∧q+k∉ms:=fun k=>⟨by omega,fun h=>by have:=hmq _ h;omega⟩;have hdo:=fun(T:aB) (g0:T[0]?=some (.box [.ptr c 0])) (g9:T[9]?=some (.box ((bW u).map .d))) (g10:T[10]?=some (.box [.nils,.nils,.nils,.nils,.nils,.nils,.nils,.nils,.nils,.nils,.nils,.nils]))=>
   j83 (H:=H.set a .dead++T) (a:=q+4) (c:=c) (kc:=q+0) (ka:=q+9) (ko:=q+10) (ms:=ms) (A:=A) (u:=u) (w:=W4 i) (H4 u hmem).1 (H4 u hmem).2 (by rw[wsk hHq,wgk hHq,ku5 (by decide)];exact g0) (by rw[wsk hHq,wgk hHq,ku5 (by decide)];exact g9) (by rw[wsk hHq,wgk hHq,ku5 (by decide)];exact g10) (hnot 0) (hnot 9) (hnot 10) (by omega) hlA Pi.2.1 hWn (by rw[hWs];exact Pj.2.2)
  have hF:(fnF fr id A u.2 (W4 i)).1.1=dH ((cL fr id (A++u.2.1) u.2.2.2 (aS fr id (A++u.2.1) u.2.2.1 (aQ u.2.1.length (W4 i))).2).2.nums.drop ms.length):=by rw[←hlA];rfl
  have hWe:W4 (i+1)=dO ms.length (cL fr id (A++u.2.1) u.2.2.2 (aS fr id (A++u.2.1) u.2.2.1 (aQ u.2.1.length (W4 i))).2).2:=by rw[←hWs,←hlA];rfl
  generalize cL fr id (A++u.2.1) u.2.2.2 (aS fr id (A++u.2.1) u.2.2.1 (aQ u.2.1.length (W4 i))).2=S at hw2 hwk2 hdo hF hWe;obtain⟨_,w6⟩:=S;simp only[dO]at hw2 hwk2 hdo hF hWe;have hWn2:(W4 (i+1)).nums=w6.nums.take ms.length:=by rw[hWe]
  have hWx2:(W4 (i+1)).next=w6.next:=by rw[hWe]
  generalize (fnF fr id A u.2 (W4 i)).1=R at hdo hF hXs;obtain⟨p1,⟨m1,m2,m3,m4,m5⟩,p2,⟨n1,n2,n3,n4,n5⟩⟩:=R;simp only at hF;have hup:ms.length+u.2.1.length<500000000:=by omega
  clear hu hmem hmu Pj hWs k1 k2 hWe;obtain⟨un,up,⟨u1,u2,u3,u4,u5⟩,uq,⟨y1,y2,y3,y4,y5⟩⟩:=u;have hcap:(i+1)*304≤aV∧i+1≤aV:=by simp[aV];omega
  have hget:∀z,(kq8 (X4 i)++[z])[i]?=some z:=fun z=>by rw[kr5 (by omega),hls];simp
  have hset:∀z z',(kq8 (X4 i)++[z]).set i z'=kq8 (X4 i)++[z']:=fun z z'=>by rw[kx2 _ _ (by omega),hls];simp
  have hlt:(i:Int)<((i+1:Nat):Int):=by omega
  have hrow:kq8 (X4 i)++[[.str un,.sl (nums p1),.sl (m1.map aD),.sl (m2.map aE),.sl (kq7 m3),.sl (kq8 m4),.sl (kq9 m5),.sl (nums p2),.sl (n1.map aD),.sl (n2.map aE),.sl (kq7 n3),.sl (kq8 n4),.sl (kq9 n5)]]=kq8 (X4 (i+1)):=by rw[hXs];simp[lR,bW,cU,aA]
  simp only[bW,cU,aA,kq1,kq5,kr0,kr2]at hdo hg hw2 hup ⊢;simp -implicitDefEqProofs only[oS.d,J0,J1,J2,J3,J4,J5,J6,J7,J8,↓reduceIte,reduceCtorEq,hc,hg,hl,wg0 (hl _),wgk (hl _),ws0 (hl _),wsk (hl _),bY (hl _),kr3,kq2,kq4,kr8,cS];refine j81 (j:=4) (k:=10) hR hq.symm (by simp only[dS,eE,eM,fP,fQ,hco,fB,fU,fV,fW,fX,eA,fY,fZ,eN,gA,gB,kt7,ku1,false_implies,implies_true,and_true,true_and,and_self,kr4,kr7,kt2,ks7]<;>omega) rfl hb1 (hWn.trans hlN.symm) (by simp only[dS,eE,eM,fP,fQ,fB,fU,fV,fW,fX,eA,fY,fZ,eN,gA,gB,kt7,ku1,false_implies,implies_true,and_true,true_and,and_self,kr4,kr7,kt2,ks7]<;>omega) (fun h=>jf3 h hup (by rw[kq3,hHq];exact(by simp only[dS,eE,eM,fP,fQ,fB,fU,fV,fW,fX,eA,fY,fZ,eN,gA,gB,kt7,ku1,false_implies,implies_true,and_true,true_and,and_self,kr4,kr7,kt2,ks7]<;>omega)) (hdo _ rfl rfl rfl) (by rw[kq3,hHq];simp) (hnot 10).1 (by omega) (hnot 10).2 rfl hw2 hwk2) ?_;intro b2 hb2;rw[←hF];simp -implicitDefEqProofs only[oS.d,J0,J1,J2,J3,J4,J5,J6,J7,J8,↓reduceIte,reduceCtorEq,hcap,htk,zK5,hlt,hget,hset,hrow,hw1,hl,wg0 (hl _),wgk (hl _),ws0 (hl _),wsk (hl _),bY (hl _),kr3,kq2,kq4,kr8,cS];rw[←hWn2,←hWx2];refine⟨(i+1,b2),⟨by show i+1≤x4.length;omega,hb2⟩,by show x4.length-(i+1)<x4.length-i;omega,?_⟩;exact gJ (wid q [0,1,2,3,11,5,6,7,8]) _ (ko1 _) (gQ rfl) jV (gR hHq hHc (gT (j':=4) rfl) (by simp only[kr0,kr2,ku7,kv1,kr4,kr7,kt2,ks7,bA,kr6,ks4,jW,jX,jY,ks9,aG,hra,gP hcq,kt9,fD];rfl)) ⟨⟨_,ko0 _,rfl⟩,⟨_,ko0 _,rfl⟩,⟨_,ko0 _,rfl⟩,⟨_,ko0 _,kN⟩,⟨_,ko0 _,cP⟩,⟨_,ko0 _,cP⟩,⟨_,ko0 _,cP⟩,trivial⟩
 have hc:((i:Int)<(x4.length:Int))=False:=by simp;omega
 have hie:i=x4.length:=by omega
 subst hie;rw[←al4,←ax4]at *;simp -implicitDefEqProofs only[oS.d,J0,J1,J2,J3,J4,J5,J6,J7,J8,↓reduceIte,reduceCtorEq,hc,hl,wg0 (hl _),wgk (hl _),ws0 (hl _),wsk (hl _),bY (hl _),kr3,e5];refine bE (α:=Nat×Option Nat) (fun s=>[(147,.one (.d (.int .i64 s.1))),(146,.one (.d (.int .i64 x5.length))),(145,.one (.d (.sl (kq9 x5)))),(2,.one (.ptr q 0)),(3,.one (.ptr (q+1) 0)),(4,.one (.ptr (q+2) 0)),(5,.one (.ptr (q+3) 0))]) (fun s=>st (H.set a .dead) (cn c fr (W5 s.1).next (bdL s.2 (q+4) ms.length) ms A (W5 s.1).nums)++[.box [.ptr c 0],.box [.d (.sl (x1.map aD)),.d (.sl (x2.map aE)),.d (.sl (kq7 x3)),.d (.sl (kq8 x4)),.d (.sl (kq9 x5))],.box [.nils,.nils,.nils,.nils,.nils],.box [.own (q+5) x1.length x1.length,.own (q+6) x2.length x2.length,.own (q+7) x3.length x3.length,.own (q+8) x4.length x4.length,.own (q+9) s.1 s.1],arO s.2 ms,.arr false 5 x1.length (r1.map aD),.arr false 5 x2.length (r2.map aE),.arr false 6 x3.length (kq7 r3),.arr false 13 x4.length (kq8 r4),.arr false 7 s.1 (kq9 (X5 s.1))]) (fun s=>s.1≤x5.length∧(s.2=none→ms=[])) (fun s=>x5.length-s.1) (0,b1) ?_ ⟨kt1 _,hb1⟩ ?_
 ·simp only[w50,x50];exact oA [] [(q+3,4,7)] (wid q [0,1,2,3,4,5,6,7,8,9]) _ rfl (uI (hl _) rfl rfl) (ko1 _) (gQ rfl) jV (gR hHq hHc (gT (j':=4) rfl) (by simp only[kr0,kr2,ku7,kv1,kr4,kr7,kt2,ks7,bA,kr6,ks4,jW,jX,jY,ks9,aG,hra,gP hcq,kt9,fD];rfl)) ⟨⟨_,ko0 _,rfl⟩,⟨_,ko0 _,rfl⟩,⟨_,ko0 _,rfl⟩,⟨_,ko0 _,kN⟩,⟨_,ko0 _,cP⟩,⟨_,ko0 _,cP⟩,⟨_,ko0 _,cP⟩,trivial⟩
 clear hi hb1 P4 s4 xl4 hXl hls htk hw1 h5 hc;rintro⟨i,b1⟩ ⟨hi,hb1⟩;dsimp only at hi hb1 ⊢;have hw1:=bQ (a:=i) rfl (by omega);have hXl:=xl5 i hi;have hls:(kq9 (X5 i)).length=i:=by rw[lU,hXl]
 have htk:(kq9 (X5 i)).take i=kq9 (X5 i):=kq6 (by omega);rcases ks3 i x5.length with h5|h5
 ·have hc:((i:Int)<(x5.length:Int))=True:=by simp;omega
  obtain⟨u,hu⟩:=bK h5;have hmem:=kq0 hu;have hmu:=dB (f:=fJ) hmem;have hcu:=tV u;have hg:(kq9 x5)[i]?=some (cB u):=by rw[lS,ks1,hu];rfl
  have Pi:=P5 i;have Pj:=P5 (i+1);obtain⟨hWs,hXs⟩:=s5 i u hu;simp only[jB]at hWs hXs;have t1:=fun T (h:Rg T c (q+4) ms b1 A (W5 i).nums)=>zM5 (l:=u.2.1) (H5 u hmem) T c (q+4) ms b1 A (W5 i) h (by omega) Pi.2.1 (show(cL fr id A u.2 (W5 i)).2.next<_ by rw[hWs];exact Pj.2.2);have hxe:(u.2.1,u.2.2)=u.2:=rfl;rw[hxe,hWs]at t1;generalize (cL fr id A u.2 (W5 i)).1=R at t1 hXs;obtain⟨p1,⟨m1,m2,m3,m4,m5⟩⟩:=R;clear hu hmem hmu Pj hWs hxe hcu;obtain⟨un,up,⟨u1,u2,u3,u4,u5⟩⟩:=u;have hcap:(i+1)*160≤aV∧i+1≤aV:=by simp[aV];omega
  have hget:∀z,(kq9 (X5 i)++[z])[i]?=some z:=fun z=>by rw[kr5 (by omega),hls];simp
  have hset:∀z z',(kq9 (X5 i)++[z]).set i z'=kq9 (X5 i)++[z']:=fun z z'=>by rw[kx2 _ _ (by omega),hls];simp
  have hlt:(i:Int)<((i+1:Nat):Int):=by omega
  have hrow:kq9 (X5 i)++[[.str un,.sl (nums p1),.sl (m1.map aD),.sl (m2.map aE),.sl (kq7 m3),.sl (kq8 m4),.sl (kq9 m5)]]=kq9 (X5 (i+1)):=by rw[hXs];simp[lS,cB,aA]
  simp only[abW,cB,aA,kq1,kq5,kr0,kr2]at t1 hg ⊢;simp -implicitDefEqProofs only[oS.d,J0,J1,J2,J3,J4,J5,J6,J7,J8,↓reduceIte,reduceCtorEq,hc,hg,hcap,zj1,hl,wg0 (hl _),wgk (hl _),ws0 (hl _),wsk (hl _),bY (hl _),kr3,kq2,kq4,kr8,cS];refine⟨?_,?_⟩;all_goals
   refine zM2 (j:=4) hR hq.symm (by simp only[dS,eE,eM,fP,fQ,hco,fB,fU,fV,fW,fX,eA,fY,fZ,eN,gA,gB,kt7,ku1,false_implies,implies_true,and_true,true_and,and_self,kr4,kr7,kt2,ks7]<;>omega) rfl hb1 (Pi.1.trans hn0.symm) (by simp only[dS,eE,eM,fP,fQ,fB,fU,fV,fW,fX,eA,fY,fZ,eN,gA,gB,kt7,ku1,false_implies,implies_true,and_true,true_and,and_self,kr4,kr7,kt2,ks7]<;>omega) (fun h=>t1 _ h) ?_;intro b2 hb2;simp -implicitDefEqProofs only[oS.d,J0,J1,J2,J3,J4,J5,J6,J7,J8,↓reduceIte,reduceCtorEq,hcap,htk,zj1,hlt,hget,hset,hrow,hw1,hl,wg0 (hl _),wgk (hl _),ws0 (hl _),wsk (hl _),bY (hl _),kr3,kq2,kq4,kr8,cS];refine⟨(i+1,b2),⟨by show i+1≤x5.length;omega,hb2⟩,by show x5.length-(i+1)<x5.length-i;omega,?_⟩;first
   |exact gJ (wid q [0,1,2,3,11,5,6,7,8,9]) _ (ko1 _) (gQ rfl) jV (gR hHq hHc (gT (j':=4) rfl) (by simp only[kr0,kr2,ku7,kv1,kr4,kr7,kt2,ks7,bA,kr6,ks4,jW,jX,jY,ks9,aG,hra,gP hcq,kt9,fD];rfl)) ⟨⟨_,ko0 _,rfl⟩,⟨_,ko0 _,rfl⟩,⟨_,ko0 _,rfl⟩,⟨_,ko0 _,kN⟩,⟨_,ko0 _,cP⟩,⟨_,ko0 _,cP⟩,⟨_,ko0 _,cP⟩,trivial⟩
   |exact gJ (wid q [0,1,2,3,12,5,6,7,8,9]) _ (ko1 _) (gQ rfl) jV (gR hHq hHc (gT (j':=4) rfl) (by simp only[kr0,kr2,ku7,kv1,kr4,kr7,kt2,ks7,bA,kr6,ks4,jW,jX,jY,ks9,aG,hra,gP hcq,kt9,fD];rfl)) ⟨⟨_,ko0 _,rfl⟩,⟨_,ko0 _,rfl⟩,⟨_,ko0 _,rfl⟩,⟨_,ko0 _,kN⟩,⟨_,ko0 _,cP⟩,⟨_,ko0 _,cP⟩,⟨_,ko0 _,cP⟩,trivial⟩
 have hc:((i:Int)<(x5.length:Int))=False:=by simp;omega
 have hie:i=x5.length:=by omega
 subst hie;rw[←al5,←ax5]at *;simp -implicitDefEqProofs only[oS.d,J0,J1,J2,J3,J4,J5,J6,J7,J8,↓reduceIte,reduceCtorEq,hc,hl0,hl,wg0 (hl _),wgk (hl _),ws0 (hl _),wsk (hl _),bY (hl _),kr3];have z1:(r1.map aD).take x1.length=r1.map aD:=kq6 (by rw[kr8];omega);have z2:(r2.map aE).take x2.length=r2.map aE:=kq6 (by rw[kr8];omega);have z3:(kq7 r3).take x3.length=kq7 r3:=kq6 (by rw[kJ];omega);have z4:(kq8 r4).take x4.length=kq8 r4:=kq6 (by rw[lT];omega);have z5:(kq9 r5).take x5.length=kq9 r5:=kq6 (by rw[lU];omega);refine aH (wid q [4]) (vs:=[.agg [.own (q+5) x1.length x1.length,.own (q+6) x2.length x2.length,.own (q+7) x3.length x3.length,.own (q+8) x4.length x4.length,.own (q+9) x5.length x5.length]]) (by simp[dI,cN,wgk (hl _),mkV,List.lookup,kI]) (pD hHq hHc rfl (gT (j':=0) rfl) (by simp only[kr0,kr2,ku7,kv1,kr4,kr7,kt2,ks7,bA,kr6,ks4,jW,jX,jY,ks9,aG,hra,gP hcq,kt9,fD];rfl) (r':=.agg [.d (.sl (r1.map aD)),.d (.sl (r2.map aE)),.d (.sl (kq7 r3)),.d (.sl (kq8 r4)),.d (.sl (kq9 r5))]) (by simp[dA,cF,bP,cW,bT,aG,pC,fD,idx,wgk (hl _),z1,z2,z3,z4,z5])) ⟨rfl,b1,hb1,by rw[←hq];rfl⟩
theorem j87 {fr:List Int} (hfr:fr.length<1000000000):∀x:Stx,stn x<90000000→CS fr x:=by
 intro s;induction s using Stx.ind with
 |h ts vs ss fs gs i1 i2 i3=>
 intro hs;have hs2:=hs;simp only[stn]at hs2;refine j86 hfr ts vs ss fs gs hs (fun x hx=>i1 x hx ?_) (fun x hx=>⟨(i2 x hx).1 ?_,(i2 x hx).2 ?_⟩) (fun x hx=>i3 x hx ?_)
 ·have:=wC hx;omega
 ·have:=oF hx;omega
 ·have:=oF hx;omega
 ·have:=tT hx;omega
open Go.Vt.Al
def gC (A:List Int) (P:Int→Prop) (w w':WS):Prop:=(∀m,m∈w'.free↔m∈w.free∨(P m∧m∉A))∧(iS w.free.reverse→iS w'.free.reverse)
section
variable {A:List Int} {P Q R:Int→Prop} {w w1 w2:WS}
theorem gC.no (h:∀m,¬P m):gC A P w w:=⟨fun m=>by simp[h m],id⟩
theorem gC.cg (h:gC A P w w1) (hR:∀m,R m↔P m):gC A R w w1:=⟨fun m=>by rw[h.1 m,hR m],h.2⟩
theorem gC.tr (h:gC A P w w1) (g:gC A Q w1 w2):gC A (fun m=>P m∨Q m) w w2:=⟨fun m=>by
 rw[g.1 m,h.1 m];constructor
 ·rintro((a|⟨a,b⟩)|⟨a,b⟩)
  ·exact .inl a
  ·exact .inr ⟨.inl a,b⟩
  ·exact .inr ⟨.inr a,b⟩
 ·rintro(a|⟨a|a,b⟩)
  ·exact .inl (.inl a)
  ·exact .inl (.inr ⟨a,b⟩)
  ·exact .inr ⟨a,b⟩,fun d=>g.2 (h.2 d)⟩
theorem gC.bd {l:List Int} {c k:Nat} (h:gC (A++l) P (aQ c w) w1):gC A (fun m=>m∉l∧P m) w (dO k w1):=⟨fun m=>by
 show m∈w1.free↔_;rw[h.1 m];simp only[List.mem_append,not_or,aQ];constructor
 ·rintro(a|⟨a,b,c⟩)
  ·exact .inl a
  ·exact .inr ⟨⟨c,a⟩,b⟩
 ·rintro(a|⟨⟨c,a⟩,b⟩)
  ·exact .inl a
  ·exact .inr ⟨a,b,c⟩,h.2⟩
end
section
variable {tk:List Int} {sb:Int→Int} {A:List Int}
theorem j88 (n:Int) (w:WS):gC A (fun m=>n=m) w (cK tk sb A n w).2:=by
 unfold cK;cases h:cC A n with
 |none=>
  have hn:=iQ.1 h;refine⟨fun m=>?_,fun d=>z73 d⟩;show m∈lD w.free n↔_;rw[zG9];constructor
  ·rintro(rfl|a)
   ·exact .inr ⟨rfl,hn⟩
   ·exact .inl a
  ·rintro(a|⟨rfl,_⟩)
   ·exact .inr a
   ·exact .inl rfl
 |some i=>
  have hn:n∈A:=kq0 (mN.1 h).1;have key:∀w':WS,w'.free=w.free→gC A (fun m=>n=m) w w':=fun w' e=>⟨fun m=>by
   rw[e];constructor
   ·exact .inl
   ·rintro(a|⟨rfl,b⟩)
    ·exact a
    ·exact absurd hn b,fun d=>by rw[e];exact d⟩
  simp only;split
  ·exact key _ rfl
  ·exact key _ rfl
theorem qQ {α β:Type} {f:α→WS→β×WS} {P:α→Int→Prop}:∀(l:List α),(∀a∈l,∀w,gC A (P a) w (f a w).2)→∀w,gC A (fun m=>∃a∈l,P a m) w (aX f l w).2
 |[],_,w=>gC.no fun m=>by simp
 |a::l,h,w=>((h a (by simp) w).tr (qQ l (fun b hb=>h b (by simp[hb])) _)).cg fun m=>by simp
theorem zM6:∀(t:Ty) (w:WS),gC A (bL t) w (tyF tk sb A t w).2:=by
 intro t;induction t using Ty.ind with
 |h k n l ih=>
 intro w;simp only[tyF,lE];have h1:gC A (fun m=>k=gN∧n=m) w (if k=gN then (cK tk sb A n w).2 else w):=by
  split
  ·rename_i h;exact(j88 n w).cg fun m=>by simp[h]
  ·rename_i h;exact gC.no fun m=>by simp[h]
 exact(h1.tr (qQ l ih _)).cg fun m=>by simp only[bL,sE]
theorem j89 (t:Tym) (w:WS):gC A (mO t) w (cR tk sb A t w).2:=
 ((zM6 (tk:=tk) (sb:=sb) t.t w).tr (qQ (f:=ctF tk sb A) (P:=fun c=>bL.go c.args) t.cts (fun c _ w=>by
  simp only[ctF,lE];exact(qQ c.args (fun t _ w=>zM6 t w) w).cg fun m=>sE) _)).cg fun m=>Iff.rfl
theorem j90:∀(s:Stx) (A:List Int) (w:WS),gC A (aL s) w (aS tk sb A s w).2:=by
 intro s;induction s using Stx.ind with
 |h ts vs ss fs gs i1 i2 i3=>
 intro A w;rw[sI];have b1:=qQ (A:=A) (f:=cR tk sb A) ts (fun m _ w=>j89 m w) w;have b2:=b1.tr (qQ (A:=A) (f:=dK tk sb A) (P:=fun v=>bL v.s.t) vs (fun m _ w=>zM6 m.s.t w) _);have b3:=b2.tr (qQ (A:=A) (f:=eD tk sb A) (P:=fun x=>aL x.2) ss (fun x hx w=>i1 x hx A w) _);have b4:=b3.tr (qQ (A:=A) (f:=eT tk sb A) (P:=fun x m=>m∉x.2.1∧(aL x.2.2.1 m∨(m∉x.2.2.2.1∧aL x.2.2.2.2 m))) fs (fun x hx w=>gC.bd (((i2 x hx).1 _ _).tr (gC.bd ((i2 x hx).2 _ _)))) _);have b5:=b4.tr (qQ (A:=A) (f:=jB tk sb A) (P:=fun x m=>m∉x.2.1∧aL x.2.2 m) gs (fun x hx w=>gC.bd (i3 x hx _ _)) _);exact b5.cg fun m=>by simp only[aL,uA,uB,uC,or_assoc]
end
theorem wQ (q:List Int) (s:Stx):(∀m,m∈bX (q,s)↔aL s m∧m∉q)∧iS (bX (q,s)).reverse:=by
 have h:=j90 (tk:=[]) (sb:=id) s ([]++q) (aQ q.length w0);refine⟨fun m=>?_,h.2 trivial⟩;show m∈(aS [] id ([]++q) s (aQ q.length w0)).2.free↔_;rw[h.1 m];simp[aQ,w0]
theorem j91 (l:List Int) (hl:l.length<1000000000) (hn:l.Nodup):VC kp8 167 [.one (.d (.sl (nums l)))] [] fun r h'=>r = .one (.d (.sl (nums l)))∧h'=[]:=by
 refine aU mixed jN3 (by simp) ?_;show vwp kp8 0 zA4 _ [(0,.one (.d (.sl (nums l))))] [];conv in zA4=>cbv
 rw[aO];rcases ks3 l.length 2 with h2|h2
 ·have hc:((l.length:Int)<2)=True:=by simp;omega
  simp -implicitDefEqProofs only[oS.d,J0,J1,J2,J3,J4,J5,J6,J7,J8,↓reduceIte,reduceCtorEq,bU,hc];apply aH [];rfl;rfl;exact⟨rfl,rfl⟩
 have hc:((l.length:Int)<2)=False:=by simp;omega
 simp -implicitDefEqProofs only[oS.d,J0,J1,J2,J3,J4,J5,J6,J7,J8,↓reduceIte,reduceCtorEq,bU,hc];refine bE (α:=Nat) (fun i=>[(3,.one (.d (.int .i64 ((i+1:Nat):Int)))),(0,.one (.d (.sl (nums l))))]) (fun _=>[]) (fun i=>i+1≤l.length) (fun i=>l.length-i) 0 (aP [] rfl rfl rfl rfl) (by omega) ?_;intro i hi;have hw:=bQ (a:=i+1) rfl (by omega);rcases ks3 (i+1) l.length with h5|h5
 ·have hc1:(((i+1:Nat):Int)<(l.length:Int))=True:=by simp;omega
  have hs:IntKind.i64.wrap (((i+1:Nat):Int)-1)=(i:Int):=by rw[rX (by omega) (by omega)];omega
  obtain⟨u,hu⟩:=bK h5;obtain⟨v,hv⟩:=bK (l:=l) (i:=i) (by omega);have hg1:=iP hu;have hg2:=iP hv;have hne:(u=v)=False:=by
   simp only[eq_iff_iff,iff_false];rintro rfl;obtain⟨a1,a2⟩:=kp9.1 hu;obtain⟨b1,b2⟩:=kp9.1 hv;have:=(List.getElem_inj hn).1 (a2.trans b2.symm);omega
  simp -implicitDefEqProofs only[oS.d,J0,J1,J2,J3,J4,J5,J6,J7,J8,↓reduceIte,reduceCtorEq,hc1,hs,hg1,hg2,hne,hw,kq2,kq4,bU];refine⟨i+1,by omega,by omega,?_⟩;exact(aP [] rfl rfl rfl rfl)
 ·have hc1:(((i+1:Nat):Int)<(l.length:Int))=False:=by simp;omega
  simp -implicitDefEqProofs only[oS.d,J0,J1,J2,J3,J4,J5,J6,J7,J8,↓reduceIte,reduceCtorEq,hc1,bU];apply aH [];rfl;rfl;exact⟨rfl,rfl⟩
theorem j92 (l:List Int) (hl:l.length<1000000000):VC kp8 165 [.one (.d (.sl (nums l)))] [] fun r h'=>(l=[]∧r = .one .nils∧h'=[])∨(r = .one (.own 0 1 l.length)∧h'=[.arr false 1 1 (nums l)]):=by
 refine aU mixed jN2 (by simp) ?_;show vwp kp8 0 zA3 _ [(0,.one (.d (.sl (nums l))))] [];conv in zA3=>cbv
 rw[aO];have hr:((nums l).all fun e=>e.length == 1)=true:=by simp[nums]
 have hb:l.length*8≤aV:=by simp[aV];omega
 have hb3:l.length≤aV:=by simp[aV];omega
 simp -implicitDefEqProofs only[oS.d,J0,J1,J2,J3,J4,J5,J6,J7,J8,↓reduceIte,reduceCtorEq,hr,hb,hb3,bU,Nat.zero_mul,kt1];refine⟨fun he=>?_,?_⟩
 ·apply aH [];rfl;rfl;exact .inl ⟨List.map_eq_nil_iff.1 he,rfl,rfl⟩
 ·apply aH [0];rfl;rfl;exact .inr ⟨rfl,rfl⟩
theorem jf7 {l:List Int} (h:l.Nodup):(l.mergeSort fun x y=>decide (x≤y)).Nodup:=(kI7 _ _).nodup_iff.2 h
theorem j93 (vb vf:Nat) (F:List Int) (XB XF:List (List D)) (hF:F.length<1000000000) (hn:F.Nodup):VC kp8 111 [.one (.ptr 0 0)] (kH vb vf [] F XB XF) fun r h'=>r = .one (.d (.sl (nums (F.mergeSort fun x y=>decide (x≤y)))))∧∃fz,h'=[.box [.own 1 vb 0,.own 2 vf F.length],.arr false 1 vb (nums []++XB),.ar none fz 1 vf (nums F++XF)]:=by
 have c1:=j92 F hF;have c2:=jf2 1 F (by omega);have hlen:(F.mergeSort fun x y=>decide (x≤y)).length=F.length:=List.length_mergeSort _;have c3:=j91 (F.mergeSort fun x y=>decide (x≤y)) (by omega) (jf7 hn);have htk:=pA F XF;have ei:∀l,jC l=nums l:=fun _=>rfl;rw[ei,ei]at c2;generalize hG:(F.mergeSort fun x y=>decide (x≤y))=G at c2 c3 hlen ⊢;have htk2:(nums G).take F.length=nums G:=kq6 (by rw[bU];omega);simp only[kH];refine aU mixed jL1 (by simp) ?_;show vwp kp8 3 zy2 _ [(0,.one (.ptr 0 0))] [.box [.own 1 vb ([]:List Int).length,.own 2 vf F.length],.arr false 1 vb (nums []++XB),.arr false 1 vf (nums F++XF)];conv in zy2=>cbv
 rw[aO];simp -implicitDefEqProofs only[oS.d,J0,J1,J2,J3,J4,J5,J6,J7,J8,↓reduceIte,reduceCtorEq];refine bJ [] c1 rfl (by simp[cE,bP,bT,idx,htk]) rfl ?_;rintro _ _ (⟨he,rfl,rfl⟩|⟨rfl,rfl⟩)
 ·subst he;have hg0:G=[]:=List.length_eq_zero_iff.1 hlen;subst hg0;refine⟨_,_,rfl,?_⟩;simp -implicitDefEqProofs only[oS.d,J0,J1,J2,J3,J4,J5,J6,J7,J8,↓reduceIte,reduceCtorEq];refine bJ [] (j78 jf1 (by kernel_rfl)) rfl rfl rfl ?_;rintro _ _ ⟨rfl,rfl⟩;refine⟨_,_,rfl,?_⟩;simp -implicitDefEqProofs only[oS.d,J0,J1,J2,J3,J4,J5,J6,J7,J8,↓reduceIte,reduceCtorEq];refine nZ [] [.one (.d (.sl (nums [])))] _ [] rfl ⟨.inr (.inl ⟨rfl,rfl⟩),trivial⟩ (ko1 _) c3 rfl rfl rfl ?_;rintro _ _ ⟨rfl,rfl⟩;refine⟨_,_,rfl,?_⟩;simp -implicitDefEqProofs only[oS.d,J0,J1,J2,J3,J4,J5,J6,J7,J8,↓reduceIte,reduceCtorEq];apply aH [0,1,2];rfl;rfl;exact⟨rfl,_,rfl⟩
 ·refine⟨_,_,rfl,?_⟩;simp -implicitDefEqProofs only[oS.d,J0,J1,J2,J3,J4,J5,J6,J7,J8,↓reduceIte,reduceCtorEq];refine bJ [3] c2 rfl rfl rfl ?_;rintro _ _ ⟨rfl,rfl⟩;refine⟨_,_,rfl,?_⟩;simp -implicitDefEqProofs only[oS.d,J0,J1,J2,J3,J4,J5,J6,J7,J8,↓reduceIte,reduceCtorEq];refine bJ [] c3 rfl (by simp[cE,bP,bT,idx,htk2]) rfl ?_;rintro _ _ ⟨rfl,rfl⟩;refine⟨_,_,rfl,?_⟩;simp -implicitDefEqProofs only[oS.d,J0,J1,J2,J3,J4,J5,J6,J7,J8,↓reduceIte,reduceCtorEq];apply aH [0,1,2];rfl;rfl;exact⟨rfl,_,rfl⟩
theorem j94 {l:List Int} (h:l.Nodup):iS (l.mergeSort fun x y=>decide (x≤y)).reverse:=by
 have hn:=jf7 h;have hs:(l.mergeSort fun x y=>decide (x≤y)).Pairwise (fun a b=>decide (a≤b)=true):=List.pairwise_mergeSort (fun a b c h1 h2=>by simp only[decide_eq_true_eq]at *;omega) (fun a b=>by simp only[Bool.or_eq_true,decide_eq_true_eq];omega) _;exact zL9 (List.pairwise_reverse.2 ((hs.and hn).imp fun hab=>by
  have h1:=of_decide_eq_true hab.1;have h2:=hab.2;omega))
theorem j95 {q:List Int} {y:Stx} {F:List Int} (hn:F.Nodup) (hm:∀m,m∈F↔aL y m∧m∉q):(F.mergeSort fun x y=>decide (x≤y))=bX (q,y):=by
 obtain⟨f1,f2⟩:=wQ q y;have:=zh2 (j94 hn) f2 fun k=>by
  rw[ky6,ky6,(kI7 _ _).mem_iff,hm,f1]
 simpa using congrArg List.reverse this
theorem wR (q:List Int) (y:Stx) (hq:q.length<10000000) (hy:stn y<10000000):VC kp8 36 [abW q y] [] fun r h'=>r = .one (.d (.sl (nums (bX (q,y)))))∧h'=[]:=by
 have hk:=zi7 (y:=y) (q:=q) (Bd:=[]) (zi8 y ([]++q) (by omega) (by simp;omega)) (by simp;omega) 0 0 [] [] [] (by simp;omega);have hr:=fun vb vf (F:List Int) XB XF (h1:∀m,m∈F↔m∈([]:List Int)∨((aL y m∧m∉q)∧m∉([]:List Int))) (h2:Ln [] F (stn y))=>by
  have hn:=h2.2 List.nodup_nil;have h:=j93 vb vf F XB XF (by have:=h2.1;simp at this;omega) hn;rw[j95 (q:=q) (y:=y) hn fun m=>by rw[h1 m];simp]at h;exact h
 have hQe:∃Q:Int→Prop,Q=fun n=>aL y n∧n∉q:=⟨_,rfl⟩;obtain⟨Q,hQ⟩:=hQe;have hQ':∀n,(aL y n∧n∉q)=Q n:=fun n=>by rw[hQ]
 rw[←hQ]at hk;simp only[hQ']at hr;generalize bX (q,y)=G at hr ⊢;generalize stn y=sz at hk hr hy;clear hQ hQ';obtain⟨y1,y2,y3,y4,y5⟩:=y;simp only[abW,aA,kq1,kq5,kH,nums,List.append_nil,kr7]at hk ⊢;refine aU mixed jJ0 (by simp) ?_;show vwp kp8 0 zw1 _ [(0,.agg [.d (.sl (nums q)),.d (.sl (y1.map aD)),.d (.sl (y2.map aE)),.d (.sl (kq7 y3)),.d (.sl (kq8 y4)),.d (.sl (kq9 y5))])] [];conv in zw1=>cbv
 rw[aO];simp -implicitDefEqProofs only[oS.d,J0,J1,J2,J3,J4,J5,J6,J7,J8,↓reduceIte,reduceCtorEq];refine nZ [(1,0,1),(1,1,1)] _ [.box [.d (.sl (nums q)),.d (.sl (y1.map aD)),.d (.sl (y2.map aE)),.d (.sl (kq7 y3)),.d (.sl (kq8 y4)),.d (.sl (kq9 y5))],.box [.own 2 0 0,.own 3 0 0],.arr false 1 0 [],.arr false 1 0 []] [1,2,3] rfl (ko6 _) (ko1 _) hk rfl rfl rfl ?_;rintro _ _ ⟨rfl,vb,XB,vf,F1,XF,rfl,h1,h2⟩;have hr:=hr vb vf F1 XB XF h1 h2;simp only[kH]at hr ⊢;refine⟨_,_,rfl,?_⟩;simp -implicitDefEqProofs only[oS.d,J0,J1,J2,J3,J4,J5,J6,J7,J8,↓reduceIte,reduceCtorEq];refine bJ [1,2,3] hr rfl rfl rfl ?_;rintro _ _ ⟨rfl,fz,rfl⟩;refine⟨_,_,rfl,?_⟩;simp -implicitDefEqProofs only[oS.d,J0,J1,J2,J3,J4,J5,J6,J7,J8,↓reduceIte,reduceCtorEq];apply aH [];rfl;rfl;exact⟨rfl,rfl⟩
end Go.Vt.Tryz
