import Derived.Test.YtdabfkmhkoppcaaGreatDoorVtWh5
import Derived.Test.YtdabfkmhkoppcaaGreatDoorVtWh3
import Derived.Test.YtdabfkmhkoppcaaGreatDoorVtA8
import Derived.Test.YtdabfkmhkoppcaaGreatDoorVtX7
set_option linter.all false
set_option maxHeartbeats 8000000
set_option maxRecDepth 100000
open Int renaming lt_of_le_of_lt→ko3,natCast_nonneg→kd8,toNat_natCast→kd9
open List renaming append_assoc→kf1,cons_append→kg6,forall_mem_cons→kh3,getElem?_append_right→kf4,getElem?_cons_succ→kf9,getElem?_cons_zero→kf5,getElem?_eq_some_iff→kd6,getElem?_map→ke6,getElem?_set_ne→kh7,length_append→ke1,length_cons→kf6,length_map→ke9,length_nil→kg0,length_set→ki6,map_cons→ke5,map_nil→ke8,mem_of_getElem?→kd7,mem_reverse→kq0,mergeSort_perm→kw0,nil_append→kh0,not_mem_nil→kh9,set_append_right→kk5,set_cons_succ→km5,set_cons_zero→km2,take_of_length_le→ke0
open Nat renaming le_refl→kf2,lt_or_ge→kf3,reduceAdd→kg8,zero_add→kh8,zero_le→kg1
open Option renaming map_some→kh5
open Go.Proofs.Tryz renaming prog→kd5
open Go.Vt.aA renaming funs→ke2,sigs→ke4,subs→ke3
open Go.Vt.aG renaming encs→kf0
open Go.Vt.aJ renaming renLs→kg3
open Go.Vt renaming eR→J0,mkV→J1
open Nat renaming reduceBEq→J2,reduceLeDiff→J5,reduceAdd→J6,reduceMul→J7,reduceSub→J8
namespace Go.Vt.Tryz
open Go.Proofs Go.Vt.Al
theorem j39 {fr:List Int} (hfr:fr.length<1000000000) (x1:List Tym) (x2:List Vam) (x3:List (ByteArray×Stx)) (x4:List (ByteArray×FnE)) (x5:List cN) (hsm:stn (.mk x1 x2 x3 x4 x5)<90000000)
  (H3:∀x∈x3,CS fr x.2) (H4:∀x∈x4,CS fr x.2.2.1∧CS fr x.2.2.2.2) (H5:∀x∈x5,CS fr x.2.2):CS fr (.mk x1 x2 x3 x4 x5):=by
 intro H c a ms b A w hR hs hw hb;simp only[stn,oD,oE,oF]at hsm hs;have hl1:=dV (f:=cJ) (fun t=>by unfold cJ;omega) x1;have hl2:=dV (f:=cO) (fun t=>by unfold cO;omega) x2;have hl3:=dV (f:=eB) (fun t=>by unfold eB;omega) x3;have hl4:=dV (f:=dZ) (fun t=>by unfold dZ;omega) x4;have hl5:=dV (f:=eD) (fun t=>by unfold eD;omega) x5;rw[sQ]at hb ⊢;have hlA:=hR.lA;have hlN:=hR.lN;have hn0:w.nums.length=A.length:=hlN.trans hlA.symm;have bh1:∀x∈x1,∀w:WS,w.nums.length=A.length→Bh w (bY fr id A x w).2 (cJ x):=fun x _ w _=>sR x w;have bh2:∀x∈x2,∀w:WS,w.nums.length=A.length→Bh w (cH fr id A x w).2 (cO x):=fun x _ w _=>sS x w;have bh3:∀x∈x3,∀w:WS,w.nums.length=A.length→Bh w (cT fr id A x w).2 (eB x):=fun x _ w hw=>(jC x.2 A w hw).mono (by rw[nG];omega);have bh4:∀x∈x4,∀w:WS,w.nums.length=A.length→Bh w (dB fr id A x w).2 (dZ x):=fun x _ w hw=>(uZ x.2 w hw).mono (by rw[lK];omega);have bh5:∀x∈x5,∀w:WS,w.nums.length=A.length→Bh w (dJ fr id A x w).2 (eD x):=fun x _ w hw=>(oJ x.2 w hw).mono (by rw[nH];omega);have wk1:∀x∈x1,∀w:WS,Gn fr w (bY fr id A x w).2:=fun x _ w=>z96 x w;have q1:=iP (k:=A.length) x1 bh1 w hn0;have hn1:=q1.1.trans hn0;have hk1:=kM x1 wk1 w hw;have F1:=sU bh1 wk1 hn0 hw;generalize aH (bY fr id A) x1 w=R1 at hb q1 hn1 hk1 F1 ⊢;obtain⟨r1,w1⟩:=R1;simp only[Prod.mk.injEq]at hb q1 hn1 hk1 F1 ⊢;have wk2:∀x∈x2,∀w:WS,Gn fr w (cH fr id A x w).2:=fun x _ w=>z97 x w;have q2:=iP (k:=A.length) x2 bh2 w1 hn1;have hn2:=q2.1.trans hn1;have hk2:=kM x2 wk2 w1 hk1;have F2:=sU bh2 wk2 hn1 hk1;generalize aH (cH fr id A) x2 w1=R2 at hb q2 hn2 hk2 F2 ⊢;obtain⟨r2,w2⟩:=R2;simp only[Prod.mk.injEq]at hb q2 hn2 hk2 F2 ⊢;have wk3:∀x∈x3,∀w:WS,Gn fr w (cT fr id A x w).2:=fun x _ w=>sT x.2 A w;have q3:=iP (k:=A.length) x3 bh3 w2 hn2;have hn3:=q3.1.trans hn2;have hk3:=kM x3 wk3 w2 hk2;have F3:=sU bh3 wk3 hn2 hk2;generalize aH (cT fr id A) x3 w2=R3 at hb q3 hn3 hk3 F3 ⊢;obtain⟨r3,w3⟩:=R3;simp only[Prod.mk.injEq]at hb q3 hn3 hk3 F3 ⊢;have wk4:∀x∈x4,∀w:WS,Gn fr w (dB fr id A x w).2:=fun x _ w=>kd2 fun g=>kd2 (sT _ _ _) (sT _ _ _ g);have q4:=iP (k:=A.length) x4 bh4 w3 hn3;have hn4:=q4.1.trans hn3;have hk4:=kM x4 wk4 w3 hk3;have F4:=sU bh4 wk4 hn3 hk3;generalize aH (dB fr id A) x4 w3=R4 at hb q4 hn4 hk4 F4 ⊢;obtain⟨r4,w4⟩:=R4;simp only[Prod.mk.injEq]at hb q4 hn4 hk4 F4 ⊢;have wk5:∀x∈x5,∀w:WS,Gn fr w (dJ fr id A x w).2:=fun x _ w=>z98 x.2 w;have q5:=iP (k:=A.length) x5 bh5 w4 hn4;have hn5:=q5.1.trans hn4;have hk5:=kM x5 wk5 w4 hk4;have F5:=sU bh5 wk5 hn4 hk4;generalize aH (dJ fr id A) x5 w4=R5 at hb q5 hn5 hk5 F5 ⊢;obtain⟨r5,w5⟩:=R5;simp only[Prod.mk.injEq]at hb q5 hn5 hk5 F5 ⊢;have b4:=ko3 q5.2.1 hb;have b3:=ko3 q4.2.1 b4;have b2:=ko3 q3.2.1 b3;obtain⟨W5,X5,P5,s5,xl5,w50,x50,ax5,al5⟩:=F5 hb;obtain⟨W4,X4,P4,s4,xl4,w40,x40,ax4,al4⟩:=F4 b4;obtain⟨W3,X3,P3,s3,xl3,w30,x30,ax3,al3⟩:=F3 b3;obtain⟨W2,X2,P2,s2,xl2,w20,x20,ax2,al2⟩:=F2 b2;obtain⟨W1,X1,P1,s1,xl1,w10,x10,ax1,al1⟩:=F1 (ko3 q2.2.1 b2);have hr1:r1.length=x1.length:=by rw[ax1];exact xl1 _ (kf2 _)
 have hr2:r2.length=x2.length:=by rw[ax2];exact xl2 _ (kf2 _)
 have hr3:r3.length=x3.length:=by rw[ax3];exact xl3 _ (kf2 _)
 have hr4:r4.length=x4.length:=by rw[ax4];exact xl4 _ (kf2 _)
 have hr5:r5.length=x5.length:=by rw[ax5];exact xl5 _ (kf2 _)
 clear q1 q2 q3 q4 q5 hk1 hk2 hk3 hk4 hk5 hn1 hn2 hn3 hn4 hn5 b2 b3 b4;obtain⟨q,hq⟩:∃q,q=H.length:=⟨_,rfl⟩;have hl0:∀ov,(st H ov).length=q:=fun ov=>by rw[cC,hq]
 have hl:∀ov,(st (H.set a .dead) ov).length=q:=fun ov=>by rw[cC,ki6,hq]
 have hHq:(H.set a .dead).length=q:=by rw[ki6,hq]
 have hHc:Clo q (H.set a .dead):=hR.cloD (by omega);have hcq:c<q:=hq▸hR.c_;have haq:a<q:=hq▸hR.a_;have hmq:∀m∈ms,m<q:=hq▸hR.ms_;have hra:∀(js:List Nat) (b':Option Nat),bH (wr q js) (arO b' ms)=some (arO b' ms):=fun js b'=>rD hmq;have hco:∀(k:Nat) (b':Option Nat),bH (lt (q+k)) (arO b' ms)=some (arO b' ms)↔True:=fun k b'=>ja5 hmq;have hb0:=hR.b_;have ht:∀(u:Ty) (T:aB) (W:WS),tyn u<100000000→0≤W.next→(tyF fr id A u W).2.next<1000000000000000→Rg (H.set a .dead++T) c (q+4) ms b A W.nums→
   VC kd5 222 [.one (.ptr c 0),tyV u] (st (H.set a .dead++T) (cn c fr W.next (bdL b (q+4) ms.length) ms A W.nums)) fun r h'=>r=tyV (tyF fr id A u W).1∧h'=st (H.set a .dead++T) (cn c fr (tyF fr id A u W).2.next (bdL b (q+4) ms.length) ms A (tyF fr id A u W).2.nums):=
  fun u T W h1 h2 h3 h4=>z90 (by omega) hfr (tyn u) u (kf2 _) h1 _ W h4 h2 h3
 have e3:=gT x3;have e4:=iN x4;have e5:=iO x5;simp only[stW,aA,ke5,ke8];refine aS aR jE4 (by simp) ?_;show vwp kd5 (st H (cn c fr w.next (bdL b a ms.length) ms A w.nums)).length zv0 _ [(0,.one (.ptr c 0)),(1,.agg [.d (.sl (x1.map aD)),.d (.sl (x2.map aE)),.d (.sl (ke3 x3)),.d (.sl (ke2 x4)),.d (.sl (ke4 x5))])] (st H (cn c fr w.next (bdL b a ms.length) ms A w.nums));conv in zv0=>cbv
 rw[aO];simp -implicitDefEqProofs only[oS.d,J1,J2,J5,J6,↓reduceIte,reduceCtorEq,hl0,wgk (hl0 _),dD (hl0 _),kf1,ke9];refine bC (α:=Nat) (fun i=>[(26,.one (.d (.int .i64 i))),(25,.one (.d (.int .i64 x1.length))),(24,.one (.d (.sl (x1.map aD)))),(2,.one (.ptr q 0)),(3,.one (.ptr (q+1) 0)),(4,.one (.ptr (q+2) 0)),(5,.one (.ptr (q+3) 0))]) (fun i=>st (H.set a .dead) (cn c fr (W1 i).next (bdL b (q+4) ms.length) ms A (W1 i).nums)++[.box [.ptr c 0],.box [.d (.sl (x1.map aD)),.d (.sl (x2.map aE)),.d (.sl (ke3 x3)),.d (.sl (ke2 x4)),.d (.sl (ke4 x5))],.box [.nils,.nils,.nils,.nils,.nils],.box [.own (q+5) i i,.nils,.nils,.nils,.nils],arO b ms,.arr false 5 i ((X1 i).map aD)]) (fun i=>i≤x1.length) (fun i=>x1.length-i) 0 ?_ (kg1 _) ?_
 ·simp only[w10,x10];exact nB [] (mvs b c (q+4)++[(q+3,0,5)]) (wid q [0,1,2,3,4,5]) _ rfl (j37 hR hq.symm rfl rfl) (kb5 _) (fQ rfl) jK (fU hHq hHc (fV (j':=4) rfl) (by simp only[kg6,kh0,km2,km5,kf6,kg0,kh8,kg8,bB,kf5,kf9,jS,jT,kg3,aJ,hra,gI hcq,kh5,fD];rfl)) ⟨⟨_,kc0 _,rfl⟩,⟨_,kc0 _,rfl⟩,⟨_,kc0 _,rfl⟩,⟨_,kc0 _,jR⟩,⟨_,kc0 _,cS⟩,⟨_,kc0 _,cS⟩,⟨_,kc0 _,cS⟩,trivial⟩
 intro i hi;have hw1:=bJ (a:=i) rfl (by omega);have hXl:=xl1 i hi;rcases kf3 i x1.length with h5|h5
 case inl=>
  have hc:((i:Int)<(x1.length:Int))=True:=by simp;omega
  obtain⟨u,hu⟩:=bA h5;have hmu:=cY (f:=cJ) (kd7 hu);have hcu:=kV u;have hg:(x1.map aD)[i]?=some (aD u):=by rw[ke6,hu];rfl
  have Pi:=P1 i;have Pj:=P1 (i+1);have hcap:(i+1)*80≤aM∧i+1≤aM:=by simp[aM];omega
  have hXt:((X1 i).map aD).take i=(X1 i).map aD:=ke0 (by rw[ke9];omega);obtain⟨hWs,hXs⟩:=s1 i u hu;simp only[bY]at hWs hXs;rw[←hWs]at Pj;have hbt:=mO (tk:=fr) (sb:=id) (A:=A) u.t (W1 i);have hcl:=dV (f:=ctn) (fun t=>by unfold ctn;omega) u.cts;have bhc:∀x∈u.cts,∀w:WS,w.nums.length=A.length→Bh w (ctF fr id A x w).2 (ctn x):=fun x _ w _=>uY x w;have wkc:∀x∈u.cts,∀w:WS,Gn fr w (ctF fr id A x w).2:=fun x _ w=>z95 x w;have hkt:=zC (A:=A) (tk:=fr) (sb:=id) u.t (W1 i) Pi.2.1;have Pc:=sU bhc wkc (hbt.1.trans Pi.1) hkt Pj.2.2;have hbc:=(iP (k:=A.length) u.cts bhc _ (hbt.1.trans Pi.1)).2.1;have t1:=fun T=>ht u.t T (W1 i) (by omega) Pi.2.1.2.2 (ko3 hbc Pj.2.2);clear hbt hkt hbc Pj hu;generalize tyF fr id A u.t (W1 i)=R at t1 Pc hWs hXs ⊢;obtain⟨⟨rk,rn,rl⟩,S1⟩:=R;obtain⟨V,Y,Pc,sc,xlc,v0,y0,ac⟩:=Pc;obtain⟨un,⟨uk,ui,ul⟩,uc⟩:=u;simp only at ac hWs hXs;rw[ac]at hWs hXs;simp only[tyV,aG,aD,ke5,ke8,kg6,kh0]at t1 hg hcu hcl hWs ⊢;simp -implicitDefEqProofs only[oS.d,J1,J2,J5,J6,↓reduceIte,reduceCtorEq,hc,hg,wg0 (hl _),wgk (hl _),wsk (hl _),dD (hl _),kf1,kd8,kd9];refine⟨?_,?_⟩;all_goals
   refine zH4 (j:=4) hR hq.symm (by simp only[fB,iQ,jJ,qZ,hco,fP,mR,eN,rA,kh3,kh9,false_implies,implies_true,and_true,true_and,and_self,kf6,kg0,kh8,kg8]<;>omega) rfl hb0 (by rw[Pi.1,hn0]) (by simp only[fP,eN,pP,vD,kh3,kh9,false_implies,implies_true,and_true,and_self,kf6,kg0,kh8,kg8]<;>omega) (fun h=>t1 _ h) ?_;simp -implicitDefEqProofs only[oS.d,J1,J2,J5,J6,↓reduceIte,reduceCtorEq,wg0 (hl _),wgk (hl _),wsk (hl _),dD (hl _),kf1,ke9];refine bC (α:=Nat) (fun k=>[(40,.one (.d (.int .i64 k))),(39,.one (.d (.int .i64 uc.length))),(38,.one (.d (.sl (uc.map bD)))),(8,.one (.ptr (q+7) 0)),(26,.one (.d (.int .i64 i))),(25,.one (.d (.int .i64 x1.length))),(24,.one (.d (.sl (x1.map aD)))),(2,.one (.ptr q 0)),(3,.one (.ptr (q+1) 0)),(4,.one (.ptr (q+2) 0)),(5,.one (.ptr (q+3) 0))]) (fun k=>st (H.set a .dead) (cn c fr (V k).next (bdL b (q+4) ms.length) ms A (V k).nums)++[.box [.ptr c 0],.box [.d (.sl (x1.map aD)),.d (.sl (x2.map aE)),.d (.sl (ke3 x3)),.d (.sl (ke2 x4)),.d (.sl (ke4 x5))],.box [.nils,.nils,.nils,.nils,.nils],.box [.own (q+5) i i,.nils,.nils,.nils,.nils],arO b ms,.arr false 5 i ((X1 i).map aD),.box [.d (.str un),.d (.int .i64 uk),.d (.int .i64 ui),.d (.sl (kf0 ul)),.d (.sl (uc.map bD))],.box [.d (.str un),.d (.int .i64 rk),.d (.int .i64 rn),.d (.sl (kf0 rl)),.own (q+8) k k],.arr false 2 k ((Y k).map bD)]) (fun k=>k≤uc.length) (fun k=>uc.length-k) 0 ?_ (kg1 _) ?_
   ·simp only[v0,y0];exact nB [] [(q+7,4,2)] (wid q [0,1,2,3,4,5,6,7,8]) _ rfl (sV (hl _) rfl rfl) (kb5 _) (fQ rfl) jK (fU hHq hHc (fV (j':=4) rfl) (by simp only[kg6,kh0,km2,km5,kf6,kg0,kh8,kg8,bB,kf5,kf9,jS,jT,kg3,aJ,hra,gI hcq,kh5,fD];rfl)) ⟨⟨_,kc0 _,rfl⟩,⟨_,kc0 _,rfl⟩,⟨_,kc0 _,rfl⟩,⟨_,kc0 _,cS⟩,⟨_,kc0 _,rfl⟩,⟨_,kc0 _,rfl⟩,⟨_,kc0 _,rfl⟩,⟨_,kc0 _,jR⟩,⟨_,kc0 _,cS⟩,⟨_,kc0 _,cS⟩,⟨_,kc0 _,cS⟩,trivial⟩
   intro k hk;have hwk:=bJ (a:=k) rfl (by omega);have hYl:=xlc k hk;have hYt:((Y k).map bD).take k=(Y k).map bD:=ke0 (by rw[ke9];omega);rcases kf3 k uc.length with h6|h6
   ·have hck:((k:Int)<(uc.length:Int))=True:=by simp;omega
    obtain⟨d,hd⟩:=bA h6;have hmd:=cY (f:=ctn) (kd7 hd);have hcd:=qP d;have hgc:(uc.map bD)[k]?=some (bD d):=by rw[ke6,hd];rfl
    have Pk:=Pc k;have Pl:=Pc (k+1);obtain⟨hVs,hYs⟩:=sc k d hd;simp only[ctF,lP]at hVs hYs;rw[←hVs]at Pl;have hcapk:(k+1)*40≤aM∧k+1≤aM:=by simp[aM];omega
    have hcln:=dV (f:=tyn) (fun t=>by cases t;simp[tyn]) d.args;obtain⟨U,Z,Pa,sa,xla,u0,z0,aa⟩:=sU (fun x _ w _=>mO x w) (fun x _ w=>zC x w) Pk.1 Pk.2.1 Pl.2.2;rw[aa]at hVs hYs;clear hd Pl;obtain⟨cn0,cl⟩:=d;simp only[bD]at hgc hcd hcln hmd hVs hYs sa xla ⊢;simp -implicitDefEqProofs only[oS.d,J1,J2,J5,J6,J7,↓reduceIte,reduceCtorEq,hck,hgc,wgk (hl _),wsk (hl _),dD (hl _),kf1,kd8,kd9,dA];refine bC (α:=Nat) (fun n=>[(50,.one (.d (.int .i64 n))),(49,.one (.d (.int .i64 cl.length))),(48,.one (.d (.sl (kf0 cl)))),(11,.one (.ptr (q+10) 0)),(40,.one (.d (.int .i64 k))),(39,.one (.d (.int .i64 uc.length))),(38,.one (.d (.sl (uc.map bD)))),(8,.one (.ptr (q+7) 0)),(26,.one (.d (.int .i64 i))),(25,.one (.d (.int .i64 x1.length))),(24,.one (.d (.sl (x1.map aD)))),(2,.one (.ptr q 0)),(3,.one (.ptr (q+1) 0)),(4,.one (.ptr (q+2) 0)),(5,.one (.ptr (q+3) 0))]) (fun n=>st (H.set a .dead) (cn c fr (U n).next (bdL b (q+4) ms.length) ms A (U n).nums)++[.box [.ptr c 0],.box [.d (.sl (x1.map aD)),.d (.sl (x2.map aE)),.d (.sl (ke3 x3)),.d (.sl (ke2 x4)),.d (.sl (ke4 x5))],.box [.nils,.nils,.nils,.nils,.nils],.box [.own (q+5) i i,.nils,.nils,.nils,.nils],arO b ms,.arr false 5 i ((X1 i).map aD),.box [.d (.str un),.d (.int .i64 uk),.d (.int .i64 ui),.d (.sl (kf0 ul)),.d (.sl (uc.map bD))],.box [.d (.str un),.d (.int .i64 rk),.d (.int .i64 rn),.d (.sl (kf0 rl)),.own (q+8) k k],.arr false 2 k ((Y k).map bD),.box [.d (.str cn0),.d (.sl (kf0 cl))],.box [.d (.str cn0),.own (q+11) n n],.arr false 3 n (kf0 (Z n))]) (fun n=>n≤cl.length) (fun n=>cl.length-n) 0 ?_ (kg1 _) ?_
    ·simp only[u0,z0];exact nB [] [(q+10,1,3)] (wid q [0,1,2,3,4,5,6,7,8,9,10,11]) _ rfl (sV (hl _) rfl rfl) (kb5 _) (fQ rfl) jK (fU hHq hHc (fV (j':=4) rfl) (by simp only[kg6,kh0,km2,km5,kf6,kg0,kh8,kg8,bB,kf5,kf9,jS,jT,kg3,aJ,hra,gI hcq,kh5,fD];rfl)) ⟨⟨_,kc0 _,rfl⟩,⟨_,kc0 _,rfl⟩,⟨_,kc0 _,rfl⟩,⟨_,kc0 _,cS⟩,⟨_,kc0 _,rfl⟩,⟨_,kc0 _,rfl⟩,⟨_,kc0 _,rfl⟩,⟨_,kc0 _,cS⟩,⟨_,kc0 _,rfl⟩,⟨_,kc0 _,rfl⟩,⟨_,kc0 _,rfl⟩,⟨_,kc0 _,jR⟩,⟨_,kc0 _,cS⟩,⟨_,kc0 _,cS⟩,⟨_,kc0 _,cS⟩,trivial⟩
    intro n hn;have hwn:=bJ (a:=n) rfl (by omega);have hZl:=xla n hn;have htk:(kf0 (Z n)).take n=kf0 (Z n):=ke0 (by rw[dA];omega);rcases kf3 n cl.length with h7|h7
    ·have hcn:((n:Int)<(cl.length:Int))=True:=by simp;omega
     obtain⟨g,hgg⟩:=bA h7;have hmg:=cY (f:=tyn) (kd7 hgg);have hga:(kf0 cl)[n]?=some (aG g):=by rw[dN,ke6,hgg];rfl
     have Pn:=Pa n;have Pm:=Pa (n+1);obtain⟨hUs,hZs⟩:=sa n g hgg;have hcapn:(n+1)*40≤aM∧n+1≤aM:=by simp[aM];omega
     have t2:=fun T=>ht g T (U n) (by omega) Pn.2.1.2.2 (by rw[hUs];exact Pm.2.2);rw[hUs]at t2;generalize (tyF fr id A g (U n)).1=R at t2 hZs;obtain⟨rk2,rn2,rl2⟩:=R;clear hgg Pm;obtain⟨gk,gi,gl⟩:=g;have hrow:kf0 (Z n)++[[.int .i64 rk2,.int .i64 rn2,.sl (kf0 rl2)]]=kf0 (Z (n+1)):=by rw[hZs];simp[dN,aG]
     simp only[tyV,aG,ke5,ke8]at t2 hga ⊢;simp -implicitDefEqProofs only[oS.d,J1,J2,J5,J6,J7,↓reduceIte,reduceCtorEq,hcn,hga,wg0 (hl _),wgk (hl _),wsk (hl _),dD (hl _),kf1,kd8,kd9];refine zH4 (j:=4) hR hq.symm (by simp only[fB,iQ,jJ,qZ,hco,fP,mR,eN,rA,kh3,kh9,false_implies,implies_true,and_true,true_and,and_self,kf6,kg0,kh8,kg8]<;>omega) rfl hb0 (by rw[Pn.1,hn0]) (by simp only[fP,eN,pP,vD,kh3,kh9,false_implies,implies_true,and_true,and_self,kf6,kg0,kh8,kg8]<;>omega) (fun h=>t2 _ h) ?_;simp -implicitDefEqProofs only[oS.d,J1,J2,J5,J6,J7,↓reduceIte,reduceCtorEq,hcapn,htk,hrow,hwn,wgk (hl _),wsk (hl _),dD (hl _),kf1];refine⟨n+1,by omega,by omega,?_⟩;exact eT (wid q [0,1,2,3,4,5,6,7,8,9,10,11]) _ (kb5 _) (fQ rfl) jK (fU hHq hHc (fV (j':=4) rfl) (by simp only[bB,kf5,kf9,jS,jT,kg3,aJ,hra,gI hcq,kh5,fD];rfl)) ⟨⟨_,kc0 _,rfl⟩,⟨_,kc0 _,rfl⟩,⟨_,kc0 _,rfl⟩,⟨_,kc0 _,cS⟩,⟨_,kc0 _,rfl⟩,⟨_,kc0 _,rfl⟩,⟨_,kc0 _,rfl⟩,⟨_,kc0 _,cS⟩,⟨_,kc0 _,rfl⟩,⟨_,kc0 _,rfl⟩,⟨_,kc0 _,rfl⟩,⟨_,kc0 _,jR⟩,⟨_,kc0 _,cS⟩,⟨_,kc0 _,cS⟩,⟨_,kc0 _,cS⟩,trivial⟩
    ·have hcn:((n:Int)<(cl.length:Int))=False:=by simp;omega
     have hne:n=cl.length:=by omega
     subst hne;have hrow:(Y k).map bD++[[.str cn0,.sl (kf0 (Z cl.length))]]=(Y (k+1)).map bD:=by rw[hYs];simp[bD]
     simp -implicitDefEqProofs only[oS.d,J1,J2,J5,J6,J7,↓reduceIte,reduceCtorEq,hcn,hcapk,hYt,htk,hwk,hrow,wgk (hl _),wsk (hl _),dD (hl _),kf1,kd8,kd9];rw[hVs];refine⟨k+1,by omega,by omega,?_⟩;exact eT (wid q [0,1,2,3,4,5,6,7,8]) _ (kb5 _) (fQ rfl) jK (fU hHq hHc (fV (j':=4) rfl) (by simp only[bB,kf5,kf9,jS,jT,kg3,aJ,hra,gI hcq,kh5,fD];rfl)) ⟨⟨_,kc0 _,rfl⟩,⟨_,kc0 _,rfl⟩,⟨_,kc0 _,rfl⟩,⟨_,kc0 _,cS⟩,⟨_,kc0 _,rfl⟩,⟨_,kc0 _,rfl⟩,⟨_,kc0 _,rfl⟩,⟨_,kc0 _,jR⟩,⟨_,kc0 _,cS⟩,⟨_,kc0 _,cS⟩,⟨_,kc0 _,cS⟩,trivial⟩
   ·have hck:((k:Int)<(uc.length:Int))=False:=by simp;omega
    have hke:k=uc.length:=by omega
    subst hke;have hrow:(X1 i).map aD++[[.str un,.int .i64 rk,.int .i64 rn,.sl (kf0 rl),.sl ((Y uc.length).map bD)]]=(X1 (i+1)).map aD:=by rw[hXs];simp[aD,aG]
    simp -implicitDefEqProofs only[oS.d,J1,J2,J5,J6,J7,↓reduceIte,reduceCtorEq,hck,hcap,hXt,hYt,hw1,hrow,wgk (hl _),wsk (hl _),dD (hl _),kf1,kd8,kd9];rw[hWs];refine⟨i+1,by omega,by omega,?_⟩;exact eT (wid q [0,1,2,3,4,5]) _ (kb5 _) (fQ rfl) jK (fU hHq hHc (fV (j':=4) rfl) (by simp only[bB,kf5,kf9,jS,jT,kg3,aJ,hra,gI hcq,kh5,fD];rfl)) ⟨⟨_,kc0 _,rfl⟩,⟨_,kc0 _,rfl⟩,⟨_,kc0 _,rfl⟩,⟨_,kc0 _,jR⟩,⟨_,kc0 _,cS⟩,⟨_,kc0 _,cS⟩,⟨_,kc0 _,cS⟩,trivial⟩
 have hc:((i:Int)<(x1.length:Int))=False:=by simp;omega
 have hie:i=x1.length:=by omega
 subst hie;rw[←al1,←ax1]at *;simp -implicitDefEqProofs only[oS.d,J1,J2,J5,J6,↓reduceIte,reduceCtorEq,hc,wgk (hl _),ke9];refine bC (α:=Nat) (fun i=>[(80,.one (.d (.int .i64 i))),(79,.one (.d (.int .i64 x2.length))),(78,.one (.d (.sl (x2.map aE)))),(2,.one (.ptr q 0)),(3,.one (.ptr (q+1) 0)),(4,.one (.ptr (q+2) 0)),(5,.one (.ptr (q+3) 0))]) (fun i=>st (H.set a .dead) (cn c fr (W2 i).next (bdL b (q+4) ms.length) ms A (W2 i).nums)++[.box [.ptr c 0],.box [.d (.sl (x1.map aD)),.d (.sl (x2.map aE)),.d (.sl (ke3 x3)),.d (.sl (ke2 x4)),.d (.sl (ke4 x5))],.box [.nils,.nils,.nils,.nils,.nils],.box [.own (q+5) x1.length x1.length,.own (q+6) i i,.nils,.nils,.nils],arO b ms,.arr false 5 x1.length (r1.map aD),.arr false 5 i ((X2 i).map aE)]) (fun i=>i≤x2.length) (fun i=>x2.length-i) 0 ?_ (kg1 _) ?_
 ·simp only[w20,x20];exact nB [] [(q+3,1,5)] (wid q [0,1,2,3,4,5,6]) _ rfl (sV (hl _) rfl rfl) (kb5 _) (fQ rfl) jK (fU hHq hHc (fV (j':=4) rfl) (by simp only[kg6,kh0,km2,km5,kf6,kg0,kh8,kg8,bB,kf5,kf9,jS,jT,kg3,aJ,hra,gI hcq,kh5,fD];rfl)) ⟨⟨_,kc0 _,rfl⟩,⟨_,kc0 _,rfl⟩,⟨_,kc0 _,rfl⟩,⟨_,kc0 _,jR⟩,⟨_,kc0 _,cS⟩,⟨_,kc0 _,cS⟩,⟨_,kc0 _,cS⟩,trivial⟩
 clear hi hc hw1 h5 hXl P1 s1 xl1;intro i hi;have hw1:=bJ (a:=i) rfl (by omega);have hXl:=xl2 i hi;have hXt:((X2 i).map aE).take i=(X2 i).map aE:=ke0 (by rw[ke9];omega);rcases kf3 i x2.length with h5|h5
 ·have hc:((i:Int)<(x2.length:Int))=True:=by simp;omega
  obtain⟨u,hu⟩:=bA h5;have hmu:=cY (f:=cO) (kd7 hu);have hcu:=qO u;have hg:(x2.map aE)[i]?=some (aE u):=by rw[ke6,hu];rfl
  have Pi:=P2 i;have Pj:=P2 (i+1);have hcap:(i+1)*64≤aM∧i+1≤aM:=by simp[aM];omega
  obtain⟨hWs,hXs⟩:=s2 i u hu;simp only[cH]at hWs hXs;have t1:=fun T=>ht u.s.t T (W2 i) (by omega) Pi.2.1.2.2 (by rw[hWs];exact Pj.2.2);rw[hWs]at t1;generalize (tyF fr id A u.s.t (W2 i)).1=R at t1 hXs;obtain⟨rk,rn,rl⟩:=R;clear hu Pj;obtain⟨un,ug,⟨uk,ui,ul⟩⟩:=u;have hrow:(X2 i).map aE++[[.str un,.int .i64 ug,.int .i64 rk,.int .i64 rn,.sl (kf0 rl)]]=(X2 (i+1)).map aE:=by rw[hXs];simp[aE,gP,aG]
  simp only[tyV,aG,aE,gP,ke5,ke8]at t1 hg ⊢;simp -implicitDefEqProofs only[oS.d,J1,J2,J5,J6,↓reduceIte,reduceCtorEq,hc,hg,wg0 (hl _),wgk (hl _),wsk (hl _),dD (hl _),kf1,kd8,kd9];refine zH4 (j:=4) hR hq.symm (by simp only[fB,iQ,jJ,qZ,hco,fP,mR,eN,rA,kh3,kh9,false_implies,implies_true,and_true,true_and,and_self,kf6,kg0,kh8,kg8]<;>omega) rfl hb0 (by rw[Pi.1,hn0]) (by simp only[fP,eN,pP,vD,kh3,kh9,false_implies,implies_true,and_true,and_self,kf6,kg0,kh8,kg8]<;>omega) (fun h=>t1 _ h) ?_;simp -implicitDefEqProofs only[oS.d,J1,J2,J5,J6,J7,↓reduceIte,reduceCtorEq,hcap,hXt,hw1,hrow,wgk (hl _),wsk (hl _),dD (hl _),kf1];refine⟨i+1,by omega,by omega,?_⟩;exact eT (wid q [0,1,2,3,4,5,6]) _ (kb5 _) (fQ rfl) jK (fU hHq hHc (fV (j':=4) rfl) (by simp only[bB,kf5,kf9,jS,jT,kg3,aJ,hra,gI hcq,kh5,fD];rfl)) ⟨⟨_,kc0 _,rfl⟩,⟨_,kc0 _,rfl⟩,⟨_,kc0 _,rfl⟩,⟨_,kc0 _,jR⟩,⟨_,kc0 _,cS⟩,⟨_,kc0 _,cS⟩,⟨_,kc0 _,cS⟩,trivial⟩
 have hc:((i:Int)<(x2.length:Int))=False:=by simp;omega
 have hie:i=x2.length:=by omega
 subst hie;rw[←al2,←ax2]at *;simp -implicitDefEqProofs only[oS.d,J1,J2,J6,↓reduceIte,hc,wgk (hl _)];clear hi hc hw1 h5 hXl hXt P2 s2 xl2 ht;refine mF [(q+3,2,6)] _ (st (H.set a .dead) (cn c fr w2.next (bdL b (q+4) ms.length) ms A w2.nums)++[.box [.ptr c 0],.box [.d (.sl (x1.map aD)),.d (.sl (x2.map aE)),.d (.sl (ke3 x3)),.d (.sl (ke2 x4)),.d (.sl (ke4 x5))],.box [.nils,.nils,.nils,.nils,.nils],.box [.own (q+5) x1.length x1.length,.own (q+6) x2.length x2.length,.own (q+7) 0 0,.nils,.nils],arO b ms,.arr false 5 x1.length (r1.map aD),.arr false 5 x2.length (r2.map aE),.arr false 6 0 []]) [] (by rw[sV (hl _) rfl rfl];rfl) (kc4 _) (kb5 _) (z71 x1 x2 x3 x4 x5) rfl rfl rfl ?_;rintro _ _ ⟨rfl,rfl⟩;refine⟨.one (.fn 229 [.ptr (q+8) 0]),st (H.set a .dead) (cn c fr w2.next (bdL b (q+4) ms.length) ms A w2.nums)++[.box [.ptr c 0],.box [.d (.sl (x1.map aD)),.d (.sl (x2.map aE)),.d (.sl (ke3 x3)),.d (.sl (ke2 x4)),.d (.sl (ke4 x5))],.box [.nils,.nils,.nils,.nils,.nils],.box [.own (q+5) x1.length x1.length,.own (q+6) x2.length x2.length,.own (q+7) 0 0,.nils,.nils],arO b ms,.arr false 5 x1.length (r1.map aD),.arr false 5 x2.length (r2.map aE),.arr false 6 0 [],.box [.d (.sl (x1.map aD)),.d (.sl (x2.map aE)),.d (.sl (ke3 x3)),.d (.sl (ke2 x4)),.d (.sl (ke4 x5))]],by simp[lE,fY,aJ,kg3,iU,bH,dR,dD (hl _),eS,eC,dK,lD,kR,jZ],?_⟩;simp -implicitDefEqProofs only[oS.d];show vwp _ _ _ _ _ _;refine⟨229,[.ptr (q+8) 0],20,_,rfl,by simp[dX,wgk (hl _)],z68,by simp,?_⟩;rw[dD (hl _)];simp only[kf6,kg0,kh8,kg8];refine z70 (α:=Nat×Option Nat) (x3:=x3) (N:=q+10) (by omega) (fun s=>st (H.set a .dead) (cn c fr (W3 s.1).next (bdL s.2 (q+9) ms.length) ms A (W3 s.1).nums)++[.box [.ptr c 0],.box [.d (.sl (x1.map aD)),.d (.sl (x2.map aE)),.d (.sl (ke3 x3)),.d (.sl (ke2 x4)),.d (.sl (ke4 x5))],.box [.nils,.nils,.nils,.nils,.nils],.box [.own (q+5) x1.length x1.length,.own (q+6) x2.length x2.length,.own (q+7) s.1 s.1,.nils,.nils],.dead,.arr false 5 x1.length (r1.map aD),.arr false 5 x2.length (r2.map aE),.arr false 6 s.1 (ke3 (X3 s.1)),.box [.d (.sl (x1.map aD)),.d (.sl (x2.map aE)),.d (.sl (ke3 x3)),.d (.sl (ke2 x4)),.d (.sl (ke4 x5))],arO s.2 ms]) (fun i s=>s.1=i∧i≤x3.length∧(s.2=none→ms=[])) (id:=q+8) (by omega) (fun s=>dD (hl _)) ?_ ?_ (0,b) ⟨rfl,kg1 _,hb0⟩ (by rw[wgk (hl _)];rfl) (mvs b c (q+9)) (j38 hR hq.symm rfl) ?_
 rotate_left 2
 ·simp only[w30,x30];exact⟨wid q [0,1,2,3,4,5,6,7,8,9],fQ rfl,zg6 rfl,fU hHq hHc (fV (j':=9) rfl) (by simp only[kg6,kh0,km2,km5,bB,kf5,kf9,jS,jT,zH7,kg3,aJ,hra,gI hcq,kh5,fD];rfl)⟩
 ·rintro i x ⟨i,b1⟩ hx ⟨rfl,hi,hb1⟩ K' hK;refine⟨rfl,?_⟩;rw[aO];dsimp only at hb1 hK ⊢;have hmem:=kd7 hx;have hmu:=cY (f:=eB) hmem;have hcu:=nG x;have hil:=(kd6.1 hx).1;have Pi:=P3 i;have Pj:=P3 (i+1);have hXl:=xl3 i hi;obtain⟨hWs,hXs⟩:=s3 i x hx;simp only[cT]at hWs hXs;have t1:=fun T (h:Rg T c (q+9) ms b1 A (W3 i).nums)=>H3 x hmem T c (q+9) ms b1 A (W3 i) h (by omega) Pi.2.1 (by rw[hWs];exact Pj.2.2);rw[hWs]at t1;generalize (aZ fr id A x.2 (W3 i)).1=R at t1 hXs;obtain⟨m1,m2,m3,m4,m5⟩:=R;have hcap:(i+1)*136≤aM∧i+1≤aM:=by simp[aM];omega
  clear hx hmem hmu hcu Pj;obtain⟨xn,⟨u1,u2,u3,u4,u5⟩⟩:=x;have hls:(ke3 (X3 i)).length=i:=by rw[gT,hXl]
  have htk:(ke3 (X3 i)).take i=ke3 (X3 i):=ke0 (by omega);have hget:∀z,(ke3 (X3 i)++[z])[i]?=some z:=fun z=>by rw[kf4 (by omega),hls];simp
  have hset:∀z z',(ke3 (X3 i)++[z]).set i z'=ke3 (X3 i)++[z']:=fun z z'=>by rw[kk5 _ _ (by omega),hls];simp
  have hlt:(i:Int)<((i+1:Nat):Int):=by omega
  have hrow:ke3 (X3 i)++[[.str xn,.sl (m1.map aD),.sl (m2.map aE),.sl (ke3 m3),.sl (ke2 m4),.sl (ke4 m5)]]=ke3 (X3 (i+1)):=by rw[hXs];simp[kI,bX,aA]
  simp only[stW,bX,aA,ke5,ke8]at t1 ⊢;simp -implicitDefEqProofs only[oS.d,J2,J6,↓reduceIte,lZ,wgk (hl _),wsk (hl _),dD (hl _),kf1];rw[uQ,aO];simp -implicitDefEqProofs only[oS.d,J1,J2,J5,J6,J7,↓reduceIte,reduceCtorEq,zg0,wg0 (hl _),wgk (hl _),dD (hl _),kf1];refine⟨?_,?_⟩;all_goals
   refine zH3 (j:=9) hR hq.symm (by simp only[fB,iQ,jJ,qZ,j07,hco,fP,mR,eN,rA,kh3,kh9,false_implies,implies_true,and_true,true_and,and_self,kf6,kg0,kh8,kg8]<;>omega) rfl hb1 (by rw[Pi.1,hn0]) (by simp only[fP,eN,pP,vD,kh3,kh9,false_implies,implies_true,and_true,and_self,kf6,kg0,kh8,kg8]<;>omega) (fun h=>t1 _ h) ?_;intro b2 hb2;simp -implicitDefEqProofs only[oS.d,J1,J2,J5,J6,J7,↓reduceIte,reduceCtorEq,hcap,htk,zg0,hlt,hget,hset,hrow,wg0 (hl _),wgk (hl _),wsk (hl _),dD (hl _),kf1,kd8,kd9];first
   |exact hK (i+1,b2) _ ⟨rfl,by omega,hb2⟩ ⟨wid q [0,1,2,3,4,5,6,7,8,12],fQ rfl,zg6 rfl,fU hHq hHc (fV (j':=9) rfl) (by simp only[bB,kf5,kf9,jS,jT,zH7,kg3,aJ,hra,gI hcq,kh5,fD];rfl)⟩
   |exact hK (i+1,b2) _ ⟨rfl,by omega,hb2⟩ ⟨wid q [0,1,2,3,4,5,6,7,8,13],fQ rfl,zg6 rfl,fU hHq hHc (fV (j':=9) rfl) (by simp only[bB,kf5,kf9,jS,jT,zH7,kg3,aJ,hra,gI hcq,kh5,fD];rfl)⟩
 rintro⟨i,b1⟩ ⟨rfl,hi,hb1⟩;dsimp only at hb1 ⊢;rw[←al3,←ax3]at *;simp -implicitDefEqProofs only[oS.d,J1,J2,J5,J6,↓reduceIte,reduceCtorEq,wgk (hl _),e4];refine bC (α:=Nat×Option Nat) (fun s=>[(121,.one (.d (.int .i64 s.1))),(120,.one (.d (.int .i64 x4.length))),(119,.one (.d (.sl (ke2 x4)))),(2,.one (.ptr q 0)),(3,.one (.ptr (q+1) 0)),(4,.one (.ptr (q+2) 0)),(5,.one (.ptr (q+3) 0))]) (fun s=>st (H.set a .dead) (cn c fr (W4 s.1).next (bdL s.2 (q+4) ms.length) ms A (W4 s.1).nums)++[.box [.ptr c 0],.box [.d (.sl (x1.map aD)),.d (.sl (x2.map aE)),.d (.sl (ke3 x3)),.d (.sl (ke2 x4)),.d (.sl (ke4 x5))],.box [.nils,.nils,.nils,.nils,.nils],.box [.own (q+5) x1.length x1.length,.own (q+6) x2.length x2.length,.own (q+7) x3.length x3.length,.own (q+8) s.1 s.1,.nils],arO s.2 ms,.arr false 5 x1.length (r1.map aD),.arr false 5 x2.length (r2.map aE),.arr false 6 x3.length (ke3 r3),.arr false 13 s.1 (ke2 (X4 s.1))]) (fun s=>s.1≤x4.length∧(s.2=none→ms=[])) (fun s=>x4.length-s.1) (0,b1) ?_ ⟨kg1 _,hb1⟩ ?_
 ·simp only[w40,x40];exact nB [] [(q+3,3,13)] (wid q [0,1,2,3,9,5,6,7,10]) _ rfl (sV (hl _) rfl rfl) (kb5 _) (fQ rfl) jK (fU hHq hHc (fV (j':=4) rfl) (by simp only[kg6,kh0,km2,km5,kf6,kg0,kh8,kg8,bB,kf5,kf9,jS,jT,kg3,aJ,hra,gI hcq,kh5,fD];rfl)) ⟨⟨_,kc0 _,rfl⟩,⟨_,kc0 _,rfl⟩,⟨_,kc0 _,rfl⟩,⟨_,kc0 _,jR⟩,⟨_,kc0 _,cS⟩,⟨_,kc0 _,cS⟩,⟨_,kc0 _,cS⟩,trivial⟩
 clear hi hb1 P3 s3 xl3;rintro⟨i,b1⟩ ⟨hi,hb1⟩;dsimp only at hi hb1 ⊢;have hw1:=bJ (a:=i) rfl (by omega);have hXl:=xl4 i hi;have hls:(ke2 (X4 i)).length=i:=by rw[iN,hXl]
 have htk:(ke2 (X4 i)).take i=ke2 (X4 i):=ke0 (by omega);rcases kf3 i x4.length with h5|h5
 ·have hc:((i:Int)<(x4.length:Int))=True:=by simp;omega
  obtain⟨u,hu⟩:=bA h5;have hmem:=kd7 hu;have hmu:=cY (f:=dZ) hmem;have hcu:=lK u;have hg:(ke2 x4)[i]?=some (bT u):=by rw[iL,ke6,hu];rfl
  have Pi:=P4 i;have Pj:=P4 (i+1);obtain⟨hWs,hXs⟩:=s4 i u hu;simp only[dB]at hWs hXs;have hWn:(W4 i).nums.length=ms.length:=Pi.1.trans hlA;have hnum:(aY u.2.1.length (W4 i)).nums.length=(A++u.2.1).length:=eQ Pi.1;have k1:=jC (tk:=fr) (sb:=id) u.2.2.1 (A++u.2.1) _ hnum;have k2:=oJ (tk:=fr) (sb:=id) (A:=A++u.2.1) u.2.2.2 (aZ fr id (A++u.2.1) u.2.2.1 (aY u.2.1.length (W4 i))).2 (k1.1.trans hnum);have hw2:(bU fr id (A++u.2.1) u.2.2.2 (aZ fr id (A++u.2.1) u.2.2.1 (aY u.2.1.length (W4 i))).2).2.nums.length=ms.length+u.2.1.length:=by rw[k2.1,k1.1,hnum,ke1,hlA]
  have hwk2:WOk fr (bU fr id (A++u.2.1) u.2.2.2 (aZ fr id (A++u.2.1) u.2.2.1 (aY u.2.1.length (W4 i))).2).2:=z98 u.2.2.2 _ (sT u.2.2.1 _ _ Pi.2.1.enter);have hnot:∀k,q+k≠c∧q+k∉ms:=fun k=>⟨by omega,fun h=>by have:=hmq _ h;omega⟩;have hdo:=fun(T:aB) (g0:T[0]?=some (.box [.ptr c 0])) (g9:T[9]?=some (.box ((bT u).map .d))) (g10:T[10]?=some (.box [.nils,.nils,.nils,.nils,.nils,.nils,.nils,.nils,.nils,.nils,.nils,.nils]))=>
   j36 (H:=H.set a .dead++T) (a:=q+4) (c:=c) (kc:=q+0) (ka:=q+9) (ko:=q+10) (ms:=ms) (A:=A) (u:=u) (w:=W4 i) (H4 u hmem).1 (H4 u hmem).2 (by rw[wsk hHq,wgk hHq,kh7 (by decide)];exact g0) (by rw[wsk hHq,wgk hHq,kh7 (by decide)];exact g9) (by rw[wsk hHq,wgk hHq,kh7 (by decide)];exact g10) (hnot 0) (hnot 9) (hnot 10) (by omega) hlA Pi.2.1 hWn (by rw[hWs];exact Pj.2.2)
  have hF:(fnF fr id A u.2 (W4 i)).1.1=cU ((bU fr id (A++u.2.1) u.2.2.2 (aZ fr id (A++u.2.1) u.2.2.1 (aY u.2.1.length (W4 i))).2).2.nums.drop ms.length):=by rw[←hlA];rfl
  have hWe:W4 (i+1)=dQ ms.length (bU fr id (A++u.2.1) u.2.2.2 (aZ fr id (A++u.2.1) u.2.2.1 (aY u.2.1.length (W4 i))).2).2:=by rw[←hWs,←hlA];rfl
  generalize bU fr id (A++u.2.1) u.2.2.2 (aZ fr id (A++u.2.1) u.2.2.1 (aY u.2.1.length (W4 i))).2=S at hw2 hwk2 hdo hF hWe;obtain⟨_,w6⟩:=S;simp only[dQ]at hw2 hwk2 hdo hF hWe;have hWn2:(W4 (i+1)).nums=w6.nums.take ms.length:=by rw[hWe]
  have hWx2:(W4 (i+1)).next=w6.next:=by rw[hWe]
  generalize (fnF fr id A u.2 (W4 i)).1=R at hdo hF hXs;obtain⟨p1,⟨m1,m2,m3,m4,m5⟩,p2,⟨n1,n2,n3,n4,n5⟩⟩:=R;simp only at hF;have hup:ms.length+u.2.1.length<500000000:=by omega
  clear hu hmem hmu Pj hWs k1 k2 hWe;obtain⟨un,up,⟨u1,u2,u3,u4,u5⟩,uq,⟨y1,y2,y3,y4,y5⟩⟩:=u;have hcap:(i+1)*304≤aM∧i+1≤aM:=by simp[aM];omega
  have hget:∀z,(ke2 (X4 i)++[z])[i]?=some z:=fun z=>by rw[kf4 (by omega),hls];simp
  have hset:∀z z',(ke2 (X4 i)++[z]).set i z'=ke2 (X4 i)++[z']:=fun z z'=>by rw[kk5 _ _ (by omega),hls];simp
  have hlt:(i:Int)<((i+1:Nat):Int):=by omega
  have hrow:ke2 (X4 i)++[[.str un,.sl (nums p1),.sl (m1.map aD),.sl (m2.map aE),.sl (ke3 m3),.sl (ke2 m4),.sl (ke4 m5),.sl (nums p2),.sl (n1.map aD),.sl (n2.map aE),.sl (ke3 n3),.sl (ke2 n4),.sl (ke4 n5)]]=ke2 (X4 (i+1)):=by rw[hXs];simp[iL,bT,eU,aA]
  simp only[bT,eU,aA,ke5,ke8,kg6,kh0]at hdo hg hw2 hup ⊢;simp -implicitDefEqProofs only[oS.d,J1,J2,J5,J6,↓reduceIte,reduceCtorEq,hc,hg,wg0 (hl _),wgk (hl _),wsk (hl _),dD (hl _),kf1,kd8,kd9];refine j34 (j:=4) (k:=10) hR hq.symm (by simp only[fB,iQ,jJ,qZ,hco,fP,mR,eN,rA,kh3,kh9,false_implies,implies_true,and_true,true_and,and_self,kf6,kg0,kh8,kg8]<;>omega) rfl hb1 (hWn.trans hlN.symm) (by simp only[fP,eN,zA,pP,kh3,kh9,false_implies,implies_true,and_true,true_and,kf6,kg0,kh8,kg8]<;>omega) (fun h=>ja3 h hup (by rw[ke1,hHq];exact(by simp only[eN,kh3,kh9,false_implies,implies_true,and_true,kf6,kg0,kh8,kg8]<;>omega)) (hdo _ rfl rfl rfl) (by rw[ke1,hHq];simp) (hnot 10).1 (by omega) (hnot 10).2 rfl hw2 hwk2) ?_;intro b2 hb2;rw[←hF];simp -implicitDefEqProofs only[oS.d,J1,J2,J5,J6,J7,↓reduceIte,reduceCtorEq,hcap,htk,zF6,hlt,hget,hset,hrow,hw1,wgk (hl _),wsk (hl _),dD (hl _),kf1,kd8,kd9];rw[←hWn2,←hWx2];refine⟨(i+1,b2),⟨by show i+1≤x4.length;omega,hb2⟩,by show x4.length-(i+1)<x4.length-i;omega,?_⟩;exact eT (wid q [0,1,2,3,11,5,6,7,8]) _ (kb5 _) (fQ rfl) jK (fU hHq hHc (fV (j':=4) rfl) (by simp only[bB,kf5,kf9,jS,jT,kg3,aJ,hra,gI hcq,kh5,fD];rfl)) ⟨⟨_,kc0 _,rfl⟩,⟨_,kc0 _,rfl⟩,⟨_,kc0 _,rfl⟩,⟨_,kc0 _,jR⟩,⟨_,kc0 _,cS⟩,⟨_,kc0 _,cS⟩,⟨_,kc0 _,cS⟩,trivial⟩
 have hc:((i:Int)<(x4.length:Int))=False:=by simp;omega
 have hie:i=x4.length:=by omega
 subst hie;rw[←al4,←ax4]at *;simp -implicitDefEqProofs only[oS.d,J1,J2,J5,J6,↓reduceIte,reduceCtorEq,hc,wgk (hl _),e5];refine bC (α:=Nat×Option Nat) (fun s=>[(147,.one (.d (.int .i64 s.1))),(146,.one (.d (.int .i64 x5.length))),(145,.one (.d (.sl (ke4 x5)))),(2,.one (.ptr q 0)),(3,.one (.ptr (q+1) 0)),(4,.one (.ptr (q+2) 0)),(5,.one (.ptr (q+3) 0))]) (fun s=>st (H.set a .dead) (cn c fr (W5 s.1).next (bdL s.2 (q+4) ms.length) ms A (W5 s.1).nums)++[.box [.ptr c 0],.box [.d (.sl (x1.map aD)),.d (.sl (x2.map aE)),.d (.sl (ke3 x3)),.d (.sl (ke2 x4)),.d (.sl (ke4 x5))],.box [.nils,.nils,.nils,.nils,.nils],.box [.own (q+5) x1.length x1.length,.own (q+6) x2.length x2.length,.own (q+7) x3.length x3.length,.own (q+8) x4.length x4.length,.own (q+9) s.1 s.1],arO s.2 ms,.arr false 5 x1.length (r1.map aD),.arr false 5 x2.length (r2.map aE),.arr false 6 x3.length (ke3 r3),.arr false 13 x4.length (ke2 r4),.arr false 7 s.1 (ke4 (X5 s.1))]) (fun s=>s.1≤x5.length∧(s.2=none→ms=[])) (fun s=>x5.length-s.1) (0,b1) ?_ ⟨kg1 _,hb1⟩ ?_
 ·simp only[w50,x50];exact nB [] [(q+3,4,7)] (wid q [0,1,2,3,4,5,6,7,8,9]) _ rfl (sV (hl _) rfl rfl) (kb5 _) (fQ rfl) jK (fU hHq hHc (fV (j':=4) rfl) (by simp only[kg6,kh0,km2,km5,kf6,kg0,kh8,kg8,bB,kf5,kf9,jS,jT,kg3,aJ,hra,gI hcq,kh5,fD];rfl)) ⟨⟨_,kc0 _,rfl⟩,⟨_,kc0 _,rfl⟩,⟨_,kc0 _,rfl⟩,⟨_,kc0 _,jR⟩,⟨_,kc0 _,cS⟩,⟨_,kc0 _,cS⟩,⟨_,kc0 _,cS⟩,trivial⟩
 clear hi hb1 P4 s4 xl4 hXl hls htk hw1 h5 hc;rintro⟨i,b1⟩ ⟨hi,hb1⟩;dsimp only at hi hb1 ⊢;have hw1:=bJ (a:=i) rfl (by omega);have hXl:=xl5 i hi;have hls:(ke4 (X5 i)).length=i:=by rw[iO,hXl]
 have htk:(ke4 (X5 i)).take i=ke4 (X5 i):=ke0 (by omega);rcases kf3 i x5.length with h5|h5
 ·have hc:((i:Int)<(x5.length:Int))=True:=by simp;omega
  obtain⟨u,hu⟩:=bA h5;have hmem:=kd7 hu;have hmu:=cY (f:=eD) hmem;have hcu:=nH u;have hg:(ke4 x5)[i]?=some (cA u):=by rw[iM,ke6,hu];rfl
  have Pi:=P5 i;have Pj:=P5 (i+1);obtain⟨hWs,hXs⟩:=s5 i u hu;simp only[dJ]at hWs hXs;have t1:=fun T (h:Rg T c (q+4) ms b1 A (W5 i).nums)=>zH6 (l:=u.2.1) (H5 u hmem) T c (q+4) ms b1 A (W5 i) h (by omega) Pi.2.1 (show(bU fr id A u.2 (W5 i)).2.next<_ by rw[hWs];exact Pj.2.2);have hxe:(u.2.1,u.2.2)=u.2:=rfl;rw[hxe,hWs]at t1;generalize (bU fr id A u.2 (W5 i)).1=R at t1 hXs;obtain⟨p1,⟨m1,m2,m3,m4,m5⟩⟩:=R;clear hu hmem hmu Pj hWs hxe hcu;obtain⟨un,up,⟨u1,u2,u3,u4,u5⟩⟩:=u;have hcap:(i+1)*160≤aM∧i+1≤aM:=by simp[aM];omega
  have hget:∀z,(ke4 (X5 i)++[z])[i]?=some z:=fun z=>by rw[kf4 (by omega),hls];simp
  have hset:∀z z',(ke4 (X5 i)++[z]).set i z'=ke4 (X5 i)++[z']:=fun z z'=>by rw[kk5 _ _ (by omega),hls];simp
  have hlt:(i:Int)<((i+1:Nat):Int):=by omega
  have hrow:ke4 (X5 i)++[[.str un,.sl (nums p1),.sl (m1.map aD),.sl (m2.map aE),.sl (ke3 m3),.sl (ke2 m4),.sl (ke4 m5)]]=ke4 (X5 (i+1)):=by rw[hXs];simp[iM,cA,aA]
  simp only[abW,cA,aA,ke5,ke8]at t1 hg ⊢;simp -implicitDefEqProofs only[oS.d,J1,J2,J5,J6,J7,↓reduceIte,reduceCtorEq,hc,hg,zg1,wg0 (hl _),wgk (hl _),wsk (hl _),dD (hl _),kf1,kd8,kd9];refine⟨?_,?_⟩;all_goals
   refine zH3 (j:=4) hR hq.symm (by simp only[fB,iQ,jJ,qZ,hco,fP,mR,eN,rA,kh3,kh9,false_implies,implies_true,and_true,true_and,and_self,kf6,kg0,kh8,kg8]<;>omega) rfl hb1 (Pi.1.trans hn0.symm) (by simp only[fP,eN,pP,vD,kh3,kh9,false_implies,implies_true,and_true,and_self,kf6,kg0,kh8,kg8]<;>omega) (fun h=>t1 _ h) ?_;intro b2 hb2;simp -implicitDefEqProofs only[oS.d,J1,J2,J5,J6,J7,↓reduceIte,reduceCtorEq,hcap,htk,zg1,hlt,hget,hset,hrow,hw1,wg0 (hl _),wgk (hl _),wsk (hl _),dD (hl _),kf1,kd8,kd9];refine⟨(i+1,b2),⟨by show i+1≤x5.length;omega,hb2⟩,by show x5.length-(i+1)<x5.length-i;omega,?_⟩;first
   |exact eT (wid q [0,1,2,3,11,5,6,7,8,9]) _ (kb5 _) (fQ rfl) jK (fU hHq hHc (fV (j':=4) rfl) (by simp only[bB,kf5,kf9,jS,jT,kg3,aJ,hra,gI hcq,kh5,fD];rfl)) ⟨⟨_,kc0 _,rfl⟩,⟨_,kc0 _,rfl⟩,⟨_,kc0 _,rfl⟩,⟨_,kc0 _,jR⟩,⟨_,kc0 _,cS⟩,⟨_,kc0 _,cS⟩,⟨_,kc0 _,cS⟩,trivial⟩
   |exact eT (wid q [0,1,2,3,12,5,6,7,8,9]) _ (kb5 _) (fQ rfl) jK (fU hHq hHc (fV (j':=4) rfl) (by simp only[bB,kf5,kf9,jS,jT,kg3,aJ,hra,gI hcq,kh5,fD];rfl)) ⟨⟨_,kc0 _,rfl⟩,⟨_,kc0 _,rfl⟩,⟨_,kc0 _,rfl⟩,⟨_,kc0 _,jR⟩,⟨_,kc0 _,cS⟩,⟨_,kc0 _,cS⟩,⟨_,kc0 _,cS⟩,trivial⟩
 have hc:((i:Int)<(x5.length:Int))=False:=by simp;omega
 have hie:i=x5.length:=by omega
 subst hie;rw[←al5,←ax5]at *;simp -implicitDefEqProofs only[oS.d,J1,J2,J6,↓reduceIte,hc,hl0,wgk (hl _),wsk (hl _),kf1];have z1:(r1.map aD).take x1.length=r1.map aD:=ke0 (by rw[ke9];omega);have z2:(r2.map aE).take x2.length=r2.map aE:=ke0 (by rw[ke9];omega);have z3:(ke3 r3).take x3.length=ke3 r3:=ke0 (by rw[gT];omega);have z4:(ke2 r4).take x4.length=ke2 r4:=ke0 (by rw[iN];omega);have z5:(ke4 r5).take x5.length=ke4 r5:=ke0 (by rw[iO];omega);refine aI (wid q [4]) (vs:=[.agg [.own (q+5) x1.length x1.length,.own (q+6) x2.length x2.length,.own (q+7) x3.length x3.length,.own (q+8) x4.length x4.length,.own (q+9) x5.length x5.length]]) (by simp[cX,cI,wgk (hl _),mkV,List.lookup,mI]) (oP hHq hHc rfl (fV (j':=0) rfl) (by simp only[bB,kf5,kf9,hra];rfl) (r':=.agg [.d (.sl (r1.map aD)),.d (.sl (r2.map aE)),.d (.sl (ke3 r3)),.d (.sl (ke2 r4)),.d (.sl (ke4 r5))]) (by simp[cM,bR,bM,dG,bO,oO,fD,idx,wgk (hl _),z1,z2,z3,z4,z5])) ⟨rfl,b1,hb1,by rw[←hq];rfl⟩
theorem j40 {fr:List Int} (hfr:fr.length<1000000000):∀x:Stx,stn x<90000000→CS fr x:=by
 intro s;induction s using Stx.ind with
 |h ts vs ss fs gs i1 i2 i3=>
 intro hs;have hs2:=hs;simp only[stn]at hs2;refine j39 hfr ts vs ss fs gs hs (fun x hx=>i1 x hx ?_) (fun x hx=>⟨(i2 x hx).1 ?_,(i2 x hx).2 ?_⟩) (fun x hx=>i3 x hx ?_)
 ·have:=pH hx;omega
 ·have:=iX hx;omega
 ·have:=iX hx;omega
 ·have:=nF hx;omega
open Go.Vt.Al
def fE (A:List Int) (P:Int→Prop) (w w':WS):Prop:=(∀m,m∈w'.free↔m∈w.free∨(P m∧m∉A))∧(jI w.free.reverse→jI w'.free.reverse)
section
variable {A:List Int} {P Q R:Int→Prop} {w w1 w2:WS}
theorem fE.no (h:∀m,¬P m):fE A P w w:=⟨fun m=>by simp[h m],id⟩
theorem fE.cg (h:fE A P w w1) (hR:∀m,R m↔P m):fE A R w w1:=⟨fun m=>by rw[h.1 m,hR m],h.2⟩
theorem fE.tr (h:fE A P w w1) (g:fE A Q w1 w2):fE A (fun m=>P m∨Q m) w w2:=⟨fun m=>by
 rw[g.1 m,h.1 m];constructor
 ·rintro((a|⟨a,b⟩)|⟨a,b⟩)
  ·exact .inl a
  ·exact .inr ⟨.inl a,b⟩
  ·exact .inr ⟨.inr a,b⟩
 ·rintro(a|⟨a|a,b⟩)
  ·exact .inl (.inl a)
  ·exact .inl (.inr ⟨a,b⟩)
  ·exact .inr ⟨a,b⟩,fun d=>g.2 (h.2 d)⟩
theorem fE.bd {l:List Int} {c k:Nat} (h:fE (A++l) P (aY c w) w1):fE A (fun m=>m∉l∧P m) w (dQ k w1):=⟨fun m=>by
 show m∈w1.free↔_;rw[h.1 m];simp only[List.mem_append,not_or,aY];constructor
 ·rintro(a|⟨a,b,c⟩)
  ·exact .inl a
  ·exact .inr ⟨⟨c,a⟩,b⟩
 ·rintro(a|⟨⟨c,a⟩,b⟩)
  ·exact .inl a
  ·exact .inr ⟨a,b,c⟩,h.2⟩
end
section
variable {tk:List Int} {sb:Int→Int} {A:List Int}
theorem j41 (n:Int) (w:WS):fE A (fun m=>n=m) w (cG tk sb A n w).2:=by
 unfold cG;cases h:cE A n with
 |none=>
  have hn:=kL.1 h;refine⟨fun m=>?_,fun d=>z08 d⟩;show m∈dS w.free n↔_;rw[zC2];constructor
  ·rintro(rfl|a)
   ·exact .inr ⟨rfl,hn⟩
   ·exact .inl a
  ·rintro(a|⟨rfl,_⟩)
   ·exact .inr a
   ·exact .inl rfl
 |some i=>
  have hn:n∈A:=kd7 (lO.1 h).1;have key:∀w':WS,w'.free=w.free→fE A (fun m=>n=m) w w':=fun w' e=>⟨fun m=>by
   rw[e];constructor
   ·exact .inl
   ·rintro(a|⟨rfl,b⟩)
    ·exact a
    ·exact absurd hn b,fun d=>by rw[e];exact d⟩
  simp only;split
  ·exact key _ rfl
  ·exact key _ rfl
theorem pR {α β:Type} {f:α→WS→β×WS} {P:α→Int→Prop}:∀(l:List α),(∀a∈l,∀w,fE A (P a) w (f a w).2)→∀w,fE A (fun m=>∃a∈l,P a m) w (aH f l w).2
 |[],_,w=>fE.no fun m=>by simp
 |a::l,h,w=>((h a (by simp) w).tr (pR l (fun b hb=>h b (by simp[hb])) _)).cg fun m=>by simp
theorem zH8:∀(t:Ty) (w:WS),fE A (cB t) w (tyF tk sb A t w).2:=by
 intro t;induction t using Ty.ind with
 |h k n l ih=>
 intro w;simp only[tyF,lP];have h1:fE A (fun m=>k=fK∧n=m) w (if k=fK then (cG tk sb A n w).2 else w):=by
  split
  ·rename_i h;exact(j41 n w).cg fun m=>by simp[h]
  ·rename_i h;exact fE.no fun m=>by simp[h]
 exact(h1.tr (pR l ih _)).cg fun m=>by simp only[cB,uV]
theorem j42 (t:Tym) (w:WS):fE A (oG t) w (bY tk sb A t w).2:=
 ((zH8 (tk:=tk) (sb:=sb) t.t w).tr (pR (f:=ctF tk sb A) (P:=fun c=>cB.go c.args) t.cts (fun c _ w=>by
  simp only[ctF,lP];exact(pR c.args (fun t _ w=>zH8 t w) w).cg fun m=>uV) _)).cg fun m=>Iff.rfl
theorem j43:∀(s:Stx) (A:List Int) (w:WS),fE A (aU s) w (aZ tk sb A s w).2:=by
 intro s;induction s using Stx.ind with
 |h ts vs ss fs gs i1 i2 i3=>
 intro A w;rw[sQ];have b1:=pR (A:=A) (f:=bY tk sb A) ts (fun m _ w=>j42 m w) w;have b2:=b1.tr (pR (A:=A) (f:=cH tk sb A) (P:=fun v=>cB v.s.t) vs (fun m _ w=>zH8 m.s.t w) _);have b3:=b2.tr (pR (A:=A) (f:=cT tk sb A) (P:=fun x=>aU x.2) ss (fun x hx w=>i1 x hx A w) _);have b4:=b3.tr (pR (A:=A) (f:=dB tk sb A) (P:=fun x m=>m∉x.2.1∧(aU x.2.2.1 m∨(m∉x.2.2.2.1∧aU x.2.2.2.2 m))) fs (fun x hx w=>fE.bd (((i2 x hx).1 _ _).tr (fE.bd ((i2 x hx).2 _ _)))) _);have b5:=b4.tr (pR (A:=A) (f:=dJ tk sb A) (P:=fun x m=>m∉x.2.1∧aU x.2.2 m) gs (fun x hx w=>fE.bd (i3 x hx _ _)) _);exact b5.cg fun m=>by simp only[aU,yD,yE,yF,or_assoc]
end
theorem j44 (q:List Int) (s:Stx):(∀m,m∈cR (q,s)↔aU s m∧m∉q)∧jI (cR (q,s)).reverse:=by
 have h:=j43 (tk:=[]) (sb:=id) s ([]++q) (aY q.length w0);refine⟨fun m=>?_,h.2 trivial⟩;show m∈(aZ [] id ([]++q) s (aY q.length w0)).2.free↔_;rw[h.1 m];simp[aY,w0]
theorem j45 (l:List Int) (hl:l.length<1000000000) (hn:l.Nodup):VC kd5 167 [.one (.d (.sl (nums l)))] [] fun r h'=>r = .one (.d (.sl (nums l)))∧h'=[]:=by
 refine aS aR jE8 (by simp) ?_;show vwp kd5 0 zv4 _ [(0,.one (.d (.sl (nums l))))] [];conv in zv4=>cbv
 rw[aO];rcases kf3 l.length 2 with h2|h2
 ·have hc:((l.length:Int)<2)=True:=by simp;omega
  simp -implicitDefEqProofs only[oS.d,J2,↓reduceIte,reduceCtorEq,bW,hc];apply aI [];rfl;rfl;exact⟨rfl,rfl⟩
 have hc:((l.length:Int)<2)=False:=by simp;omega
 simp -implicitDefEqProofs only[oS.d,J2,↓reduceIte,bW,hc];refine bC (α:=Nat) (fun i=>[(3,.one (.d (.int .i64 ((i+1:Nat):Int)))),(0,.one (.d (.sl (nums l))))]) (fun _=>[]) (fun i=>i+1≤l.length) (fun i=>l.length-i) 0 (aL [] rfl rfl rfl rfl) (by omega) ?_;intro i hi;have hw:=bJ (a:=i+1) rfl (by omega);rcases kf3 (i+1) l.length with h5|h5
 ·have hc1:(((i+1:Nat):Int)<(l.length:Int))=True:=by simp;omega
  have hs:IntKind.i64.wrap (((i+1:Nat):Int)-1)=(i:Int):=by rw[qT (by omega) (by omega)];omega
  obtain⟨u,hu⟩:=bA h5;obtain⟨v,hv⟩:=bA (l:=l) (i:=i) (by omega);have hg1:=eL hu;have hg2:=eL hv;have hne:(u=v)=False:=by
   simp only[eq_iff_iff,iff_false];rintro rfl;obtain⟨a1,a2⟩:=kd6.1 hu;obtain⟨b1,b2⟩:=kd6.1 hv;have:=(List.getElem_inj hn).1 (a2.trans b2.symm);omega
  simp -implicitDefEqProofs only[oS.d,J0,J1,J2,↓reduceIte,reduceCtorEq,hc1,hs,hg1,hg2,hne,hw,kd8,kd9,bW];refine⟨i+1,by omega,by omega,?_⟩;exact(aL [] rfl rfl rfl rfl)
 ·have hc1:(((i+1:Nat):Int)<(l.length:Int))=False:=by simp;omega
  simp -implicitDefEqProofs only[oS.d,J2,↓reduceIte,hc1,bW];apply aI [];rfl;rfl;exact⟨rfl,rfl⟩
theorem j46 (l:List Int) (hl:l.length<1000000000):VC kd5 165 [.one (.d (.sl (nums l)))] [] fun r h'=>(l=[]∧r = .one .nils∧h'=[])∨(r = .one (.own 0 1 l.length)∧h'=[.arr false 1 1 (nums l)]):=by
 refine aS aR jE7 (by simp) ?_;show vwp kd5 0 zv3 _ [(0,.one (.d (.sl (nums l))))] [];conv in zv3=>cbv
 rw[aO];have hr:((nums l).all fun e=>e.length == 1)=true:=by simp[nums]
 have hb:l.length*8≤aM:=by simp[aM];omega
 have hb3:l.length≤aM:=by simp[aM];omega
 simp -implicitDefEqProofs only[oS.d,J2,↓reduceIte,reduceCtorEq,hr,hb,hb3,bW,Nat.zero_mul,kg1];refine⟨fun he=>?_,?_⟩
 ·apply aI [];rfl;rfl;exact .inl ⟨List.map_eq_nil_iff.1 he,rfl,rfl⟩
 ·apply aI [0];rfl;rfl;exact .inr ⟨rfl,rfl⟩
theorem ja7 {l:List Int} (h:l.Nodup):(l.mergeSort fun x y=>decide (x≤y)).Nodup:=(kw0 _ _).nodup_iff.2 h
theorem j47 (vb vf:Nat) (F:List Int) (XB XF:List (List D)) (hF:F.length<1000000000) (hn:F.Nodup):VC kd5 111 [.one (.ptr 0 0)] (kH vb vf [] F XB XF) fun r h'=>r = .one (.d (.sl (nums (F.mergeSort fun x y=>decide (x≤y)))))∧∃fz,h'=[.box [.own 1 vb 0,.own 2 vf F.length],.arr false 1 vb (nums []++XB),.ar none fz 1 vf (nums F++XF)]:=by
 have c1:=j46 F hF;have c2:=ja2 1 F (by omega);have hlen:(F.mergeSort fun x y=>decide (x≤y)).length=F.length:=List.length_mergeSort _;have c3:=j45 (F.mergeSort fun x y=>decide (x≤y)) (by omega) (ja7 hn);have htk:=oM F XF;have ei:∀l,iF l=nums l:=fun _=>rfl;rw[ei,ei]at c2;generalize hG:(F.mergeSort fun x y=>decide (x≤y))=G at c2 c3 hlen ⊢;have htk2:(nums G).take F.length=nums G:=ke0 (by rw[bW];omega);simp only[kH];refine aS aR jC4 (by simp) ?_;show vwp kd5 3 zt0 _ [(0,.one (.ptr 0 0))] [.box [.own 1 vb ([]:List Int).length,.own 2 vf F.length],.arr false 1 vb (nums []++XB),.arr false 1 vf (nums F++XF)];conv in zt0=>cbv
 rw[aO];simp -implicitDefEqProofs only[oS.d,J1,J2,J5,J6,↓reduceIte,reduceCtorEq];refine bI [] c1 rfl (by simp[cL,bM,bO,idx,htk]) rfl ?_;rintro _ _ (⟨he,rfl,rfl⟩|⟨rfl,rfl⟩)
 ·subst he;have hg0:G=[]:=List.length_eq_zero_iff.1 hlen;subst hg0;refine⟨_,_,rfl,?_⟩;simp -implicitDefEqProofs only[oS.d,J2];refine bI [] (j31 ja1 (by kernel_rfl)) rfl rfl rfl ?_;rintro _ _ ⟨rfl,rfl⟩;refine⟨_,_,rfl,?_⟩;simp -implicitDefEqProofs only[oS.d,J2];refine mF [] [.one (.d (.sl (nums [])))] _ [] rfl ⟨.inr (.inl ⟨rfl,rfl⟩),trivial⟩ (kb5 _) c3 rfl rfl rfl ?_;rintro _ _ ⟨rfl,rfl⟩;refine⟨_,_,rfl,?_⟩;simp -implicitDefEqProofs only[oS.d,J2,J6];apply aI [0,1,2];rfl;rfl;exact⟨rfl,_,rfl⟩
 ·refine⟨_,_,rfl,?_⟩;simp -implicitDefEqProofs only[oS.d,J2,J6,J8];refine bI [3] c2 rfl rfl rfl ?_;rintro _ _ ⟨rfl,rfl⟩;refine⟨_,_,rfl,?_⟩;simp -implicitDefEqProofs only[oS.d,J2,↓reduceIte];refine bI [] c3 rfl (by simp[cL,bM,bO,idx,htk2]) rfl ?_;rintro _ _ ⟨rfl,rfl⟩;refine⟨_,_,rfl,?_⟩;simp -implicitDefEqProofs only[oS.d,J2,J6];apply aI [0,1,2];rfl;rfl;exact⟨rfl,_,rfl⟩
theorem j48 {l:List Int} (h:l.Nodup):jI (l.mergeSort fun x y=>decide (x≤y)).reverse:=by
 have hn:=ja7 h;have hs:(l.mergeSort fun x y=>decide (x≤y)).Pairwise (fun a b=>decide (a≤b)=true):=List.pairwise_mergeSort (fun a b c h1 h2=>by simp only[decide_eq_true_eq]at *;omega) (fun a b=>by simp only[Bool.or_eq_true,decide_eq_true_eq];omega) _;exact zH0 (List.pairwise_reverse.2 ((hs.and hn).imp fun hab=>by
  have h1:=of_decide_eq_true hab.1;have h2:=hab.2;omega))
theorem j49 {q:List Int} {y:Stx} {F:List Int} (hn:F.Nodup) (hm:∀m,m∈F↔aU y m∧m∉q):(F.mergeSort fun x y=>decide (x≤y))=cR (q,y):=by
 obtain⟨f1,f2⟩:=j44 q y;have:=zd9 (j48 hn) f2 fun k=>by
  rw[kq0,kq0,(kw0 _ _).mem_iff,hm,f1]
 simpa using congrArg List.reverse this
theorem j50 (q:List Int) (y:Stx) (hq:q.length<10000000) (hy:stn y<10000000):VC kd5 36 [abW q y] [] fun r h'=>r = .one (.d (.sl (nums (cR (q,y)))))∧h'=[]:=by
 have hk:=zf8 (y:=y) (q:=q) (Bd:=[]) (zf9 y ([]++q) (by omega) (by simp;omega)) (by simp;omega) 0 0 [] [] [] (by simp;omega);have hr:=fun vb vf (F:List Int) XB XF (h1:∀m,m∈F↔m∈([]:List Int)∨((aU y m∧m∉q)∧m∉([]:List Int))) (h2:Ln [] F (stn y))=>by
  have hn:=h2.2 List.nodup_nil;have h:=j47 vb vf F XB XF (by have:=h2.1;simp at this;omega) hn;rw[j49 (q:=q) (y:=y) hn fun m=>by rw[h1 m];simp]at h;exact h
 have hQe:∃Q:Int→Prop,Q=fun n=>aU y n∧n∉q:=⟨_,rfl⟩;obtain⟨Q,hQ⟩:=hQe;have hQ':∀n,(aU y n∧n∉q)=Q n:=fun n=>by rw[hQ]
 rw[←hQ]at hk;simp only[hQ']at hr;generalize cR (q,y)=G at hr ⊢;generalize stn y=sz at hk hr hy;clear hQ hQ';obtain⟨y1,y2,y3,y4,y5⟩:=y;simp only[abW,aA,ke5,ke8,kH,nums,List.append_nil,kg0]at hk ⊢;refine aS aR jA4 (by simp) ?_;show vwp kd5 0 zr0 _ [(0,.agg [.d (.sl (nums q)),.d (.sl (y1.map aD)),.d (.sl (y2.map aE)),.d (.sl (ke3 y3)),.d (.sl (ke2 y4)),.d (.sl (ke4 y5))])] [];conv in zr0=>cbv
 rw[aO];simp -implicitDefEqProofs only[oS.d,J1,J2,J6,↓reduceIte];refine mF [(1,0,1),(1,1,1)] _ [.box [.d (.sl (nums q)),.d (.sl (y1.map aD)),.d (.sl (y2.map aE)),.d (.sl (ke3 y3)),.d (.sl (ke2 y4)),.d (.sl (ke4 y5))],.box [.own 2 0 0,.own 3 0 0],.arr false 1 0 [],.arr false 1 0 []] [1,2,3] rfl (kc4 _) (kb5 _) hk rfl rfl rfl ?_;rintro _ _ ⟨rfl,vb,XB,vf,F1,XF,rfl,h1,h2⟩;have hr:=hr vb vf F1 XB XF h1 h2;simp only[kH]at hr ⊢;refine⟨_,_,rfl,?_⟩;simp -implicitDefEqProofs only[oS.d,J2,J6];refine bI [1,2,3] hr rfl rfl rfl ?_;rintro _ _ ⟨rfl,fz,rfl⟩;refine⟨_,_,rfl,?_⟩;simp -implicitDefEqProofs only[oS.d,J2,J6];apply aI [];rfl;rfl;exact⟨rfl,rfl⟩
end Go.Vt.Tryz
