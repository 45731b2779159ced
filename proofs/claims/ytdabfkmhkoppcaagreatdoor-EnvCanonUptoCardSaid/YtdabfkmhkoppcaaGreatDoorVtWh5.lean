import Derived.Test.YtdabfkmhkoppcaaGreatDoorVtWh3
import Derived.Test.YtdabfkmhkoppcaaGreatDoorVtMb
set_option linter.all false
set_option maxHeartbeats 2000000
set_option maxRecDepth 100000
open List renaming append_assoc→kr3,append_nil→ku3,cons_append→kr0,forall_mem_cons→kt7,getElem?_append_left→kr9,getElem?_cons_succ→ks4,getElem?_cons_zero→kr6,getElem?_eq_some_iff→kp9,length_append→kq3,length_cons→kr4,length_nil→kr7,length_set→ku4,map_cons→kq1,map_nil→kq5,mem_cons→kt6,mem_or_eq_of_mem_set→kv8,not_mem_nil→ku1
open Nat renaming reduceAdd→ks7,zero_add→kt2
open Go.Proofs.Tryz renaming prog→kp8
open Go.Vt.aA renaming funs→kq8,sigs→kq9,subs→kq7
open Go.Vt renaming dL→J0,mkV→J1
open Nat renaming reduceBEq→J2,reduceEqDiff→J3,reduceLT→J4,reduceLeDiff→J5,reduceAdd→J6,reduceMul→J7,reduceSub→J8
namespace Go.Vt.Tryz
open Go.Proofs
section
variable {H:aB} {c a:Nat} {ms:List Nat} {b:Option Nat} {A N:List Int}
theorem Rg.tl (hR:Rg H c a ms b A N) {q j:Nat} {T:aB} {b':Option Nat} {N':List Int} (hq:H.length=q) (hT:T[j]?=some (arO b' ms)) (ht:Clo (q+T.length) T) (hb:b'=none→ms=[]) (hN:N'.length=N.length) :
  Rg (H.set a .dead++T) c (q+j) ms b' A N' where
 cl:=by
  rw[kq3,ku4,hq];refine Clo.app (fun x hx=>?_) ht;rcases kv8 hx with hx|hx
  ·exact hR.cl.mono (by omega) x hx
  ·subst hx;rfl
 c_:=by have:=hR.c_;simp;omega
 ms_ m hm:=by have:=hR.ms_ m hm;simp;omega
 nd:=hR.nd
 cm:=hR.cm
 ha:=by rw[wgk (by rw[ku4,hq])];exact hT
 ac:=by have:=hR.c_;omega
 am hm:=by have:=hR.ms_ _ hm;omega
 b_:=hb
 lA:=hR.lA
 lN:=hN.trans hR.lN
theorem Rg.outD (hR:Rg H c a ms b A N) {t:aB} {fr:List Int} {nx:Int} {bd:L} {A' N':List Int}:st (H.set a .dead++t) (cn c fr nx bd ms A' N')=st (H.set a .dead) (cn c fr nx bd ms A' N')++t:=
 zL0 (zL4 (by rw[ku4];exact hR.c_) (by rw[ku4];exact hR.ms_))
theorem Rg.cloD (hR:Rg H c a ms b A N) {n:Nat} (hn:H.length≤n):Clo n (H.set a .dead):=fun x hx=>by
 rcases kv8 hx with hx|hx
 ·exact hR.cl.mono hn x hx
 ·subst hx;rfl
section
variable {P:Program} {K:Kn (V×aB)} {f:FuncId} {avs:List V} {R:V} {t:aB} {q:Nat} {fr N' N1:List Int} {nx nx':Int}
theorem zM2 {j:Nat} {b1:Option Nat} (hR:Rg H c a ms b A N) (hq:H.length=q) (ht:Clo (q+t.length) t) (hj:t[j]?=some (arO b1 ms)) (hb1:b1=none→ms=[]) (hN:N1.length=N.length) (hv:∀v∈avs,clV (q+t.length) v)
  (hc:Rg (H.set a .dead++t) c (q+j) ms b1 A N1→VC P f avs (st (H.set a .dead++t) (cn c fr nx (bdL b1 (q+j) ms.length) ms A N1)) fun r h'=>r=R∧∃b',(b'=none→ms=[])∧h'=st ((H.set a .dead++t).set (q+j) .dead) (cn c fr nx' (bdL b' (H.set a .dead++t).length ms.length) ms A N')++[arO b' ms])
  (hk:∀b',(b'=none→ms=[])→K.run (R,st (H.set a .dead) (cn c fr nx' (bdL b' (q+t.length) ms.length) ms A N')++(t.set j .dead++[arO b' ms]))) :
  @kE _ P f avs (st (H.set a .dead) (cn c fr nx (bdL b1 (q+j) ms.length) ms A N1)++t) K:=by
 have hR2:=hR.tl hq hj ht hb1 hN;have hl:(H.set a aI.dead).length=q:=by rw[ku4,hq]
 refine qO hR.outD.symm (hc hR2) ?_ ?_ ?_
 ·rw[cD];exact sK hR2.cl hR2.a_
 ·rw[cD,kq3,hl];exact hv
 ·rintro _ _ ⟨rfl,b',hb,rfl⟩;refine⟨by simp[cD],?_⟩;rw[wsk hl,hR.outD,kq3,hl,kr3];exact hk b' hb
theorem zM3 {j:Nat} {b1:Option Nat} (hR:Rg H c a ms b A N) (hq:H.length=q) (ht:Clo (q+t.length) t) (hj:t[j]?=some (arO b1 ms)) (hb1:b1=none→ms=[]) (hN:N1.length=N.length) (hv:∀v∈avs,clV (q+t.length) v)
  (hc:Rg (H.set a .dead++t) c (q+j) ms b1 A N1→VC P f avs (st (H.set a .dead++t) (cn c fr nx (bdL b1 (q+j) ms.length) ms A N1)) fun r h'=>r=R∧h'=st (H.set a .dead++t) (cn c fr nx' (bdL b1 (q+j) ms.length) ms A N'))
  (hk:K.run (R,st (H.set a .dead) (cn c fr nx' (bdL b1 (q+j) ms.length) ms A N')++t)) :
  @kE _ P f avs (st (H.set a .dead) (cn c fr nx (bdL b1 (q+j) ms.length) ms A N1)++t) K:=by
 have hR2:=hR.tl hq hj ht hb1 hN;have hl:(H.set a aI.dead).length=q:=by rw[ku4,hq]
 refine qO hR.outD.symm (hc hR2) ?_ ?_ ?_
 ·rw[cD];exact sK hR2.cl hR2.a_
 ·rw[cD,kq3,hl];exact hv
 ·rintro _ _ ⟨rfl,rfl⟩;refine⟨by simp[cD],?_⟩;rw[hR.outD];exact hk
end
theorem jf4 {G t u:aB} {c i:Nat} {fr:List Int} {nx:Int} {bd:L} {ms:List Nat} {A N:List Int} (hi:i<G.length) (hc:i≠c) (hm:i∉ms):(st (G++t) (cn c fr nx bd ms A N)++u)[i]?=G[i]?:=by
 rw[wgl (cD _ _) (by simp;omega),jI,kr9 hi,wO hc hm];simp
theorem zM4 {G u:aB} {c i:Nat} {fr:List Int} {nx:Int} {bd:L} {ms:List Nat} {A N:List Int} {o:aI} (hi:i<G.length) (hc:i≠c) (hm:i∉ms):(st G (cn c fr nx bd ms A N)++u).set i o=st (G.set i o) (cn c fr nx bd ms A N)++u:=by
 rw[wsl (cD _ _) hi,jd2 (wO hc hm)]
end
theorem jf5 {n k:Nat} {b:Option Nat} {ms:List Nat} (h:∀m∈ms,m<n):bD (lt (n+k)) (arO b ms)=some (arO b ms)↔True:=by
 have:=zL7 (b:=b) (n:=n+k) (ms:=ms) fun m hm=>by have:=h m hm;omega
 simp[this]
open Go.Proofs Go.Vt.Al
def CS (fr:List Int) (x:Stx):Prop:=∀(H:aB) (c a:Nat) (ms:List Nat) (b:Option Nat) (A:List Int) (w:WS),Rg H c a ms b A w.nums→ms.length+stn x<400000000→WOk fr w→(aS fr id A x w).2.next<1000000000000000→
 VC kp8 158 [.one (.ptr c 0),stW x] (st H (cn c fr w.next (bdL b a ms.length) ms A w.nums)) fun r h'=>r=stW (aS fr id A x w).1∧∃b',(b'=none→ms=[])∧h'=st (H.set a .dead) (cn c fr (aS fr id A x w).2.next (bdL b' H.length ms.length) ms A (aS fr id A x w).2.nums)++[arO b' ms]
theorem j80 {P:Program} {K:Kn (V×aB)} {f:FuncId} {avs:List V} {R:V} {H t:aB} {c a q k:Nat} {ms:List Nat} {b:Option Nat} {A N N' N1 fr:List Int} {nx nx':Int} {O1:aI} (hR:Rg H c a ms b A N) (hq:H.length=q) (ht:Clo (q+t.length) t) (hv:∀v∈avs,clV (q+t.length) v)
  (hc:VC P f avs (st (H++t) (cn c fr nx (bdL b a ms.length) ms A N1)) fun r h'=>r=R∧∃b',(b'=none→ms=[])∧h'=st (((H++t).set a .dead).set (q+k) O1) (cn c fr nx' (bdL b' (H++t).length ms.length) ms A N')++[arO b' ms])
  (hk:∀b',(b'=none→ms=[])→K.run (R,st (H.set a .dead) (cn c fr nx' (bdL b' (q+t.length) ms.length) ms A N')++(t.set k O1++[arO b' ms]))) :
  @kE _ P f avs (st H (cn c fr nx (bdL b a ms.length) ms A N1)++t) K:=by
 have hlen:(st (H++t) (cn c fr nx (bdL b a ms.length) ms A N1)).length=q+t.length:=by rw[cD,kq3,hq]
 refine qO hR.out.symm hc ?_ (by rw[hlen];exact hv) ?_
 ·rw[hlen,hR.out];exact jd6 hR hq ht
 ·rintro _ _ ⟨rfl,b',hb,rfl⟩;refine⟨by simp[cD],?_⟩;rw[wsl rfl hR.a_,wsk (by rw[ku4,hq]),hR.outD,kq3,hq,kr3];exact hk b' hb
theorem j81 {P:Program} {K:Kn (V×aB)} {f:FuncId} {avs:List V} {R:V} {H t:aB} {c a q j k:Nat} {ms:List Nat} {b b1:Option Nat} {A N N' N1 fr:List Int} {nx nx':Int} {O1:aI} (hR:Rg H c a ms b A N) (hq:H.length=q) (ht:Clo (q+t.length) t) (hj:t[j]?=some (arO b1 ms)) (hb1:b1=none→ms=[]) (hN:N1.length=N.length) (hv:∀v∈avs,clV (q+t.length) v)
  (hc:Rg (H.set a .dead++t) c (q+j) ms b1 A N1→VC P f avs (st (H.set a .dead++t) (cn c fr nx (bdL b1 (q+j) ms.length) ms A N1)) fun r h'=>r=R∧∃b',(b'=none→ms=[])∧h'=st (((H.set a .dead++t).set (q+j) .dead).set (q+k) O1) (cn c fr nx' (bdL b' (H.set a .dead++t).length ms.length) ms A N')++[arO b' ms])
  (hk:∀b',(b'=none→ms=[])→K.run (R,st (H.set a .dead) (cn c fr nx' (bdL b' (q+t.length) ms.length) ms A N')++((t.set j .dead).set k O1++[arO b' ms]))) :
  @kE _ P f avs (st (H.set a .dead) (cn c fr nx (bdL b1 (q+j) ms.length) ms A N1)++t) K:=by
 have hR2:=hR.tl hq hj ht hb1 hN;have hl:(H.set a aI.dead).length=q:=by rw[ku4,hq]
 refine qO hR.outD.symm (hc hR2) ?_ ?_ ?_
 ·rw[cD];exact sK hR2.cl hR2.a_
 ·rw[cD,kq3,hl];exact hv
 ·rintro _ _ ⟨rfl,b',hb,rfl⟩;refine⟨by simp[cD],?_⟩;rw[wsk hl,wsk hl,hR.outD,kq3,hl,kr3];exact hk b' hb
theorem j82 {H:aB} {c a kc ka ko:Nat} {ms:List Nat} {A fr l:List Int} {y:Stx} {w:WS} (hy:CS fr y) (g1:(H.set a .dead)[kc]?=some (.box [.ptr c 0])) (g2:(H.set a .dead)[ka]?=some (.box (.d (.sl (nums l))::(aA y).map .d))) (g3:(H.set a .dead)[ko]?=some (.box [.nils,.nils,.nils,.nils,.nils,.nils]))
  (n1:kc≠c∧kc∉ms) (n2:ka≠c∧ka∉ms) (n3:ko≠c∧ko∉ms) (hs:ms.length+l.length+stn y<400000000) (hA:A.length=ms.length) (hw:WOk fr w) (hwn:w.nums.length=ms.length) (hb:(aS fr id (A++l) y (aQ l.length w)).2.next<1000000000000000) :
  zM1 H c a ms A fr l w (aS fr id (A++l) y (aQ l.length w)).2 157 [.ptr kc 0,.ptr ka 0,.ptr ko 0] ko (.box (.nils::(aA (aS fr id (A++l) y (aQ l.length w)).1).map .d)):=by
 intro t a' b' ms' hms hR ha';have hcc:=hR.c_;obtain⟨p,hp⟩:∃p,p=(H.set a .dead++t).length:=⟨_,rfl⟩;have hml:ms'.length=ms.length+l.length:=by have:=hR.lA;simp only[kq3]at this;omega
 have lk:∀{k:Nat} {o:aI},(H.set a .dead)[k]?=some o→k<H.length:=fun h=>by have:=(kp9.1 h).1;simpa using this
 have nm:∀{k:Nat},k<H.length→k∉ms→k∉ms':=fun hk hm h=>by rcases hms _ h with h|h;exact hm h;omega
 have k1:=lk g1;have k2:=lk g2;have k3:=lk g3;have gx:∀{k:Nat} {o:aI},(H.set a .dead)[k]?=some o→k≠c∧k∉ms→∀(t u:aB) (nx:Int) (bd:L) (N:List Int),(st (H.set a .dead++t) (cn c fr nx bd ms' (A++l) N)++u)[k]?=some o:=fun h n t u nx bd N=>by rw[jf4 (by simpa using lk h) n.1 (nm (lk h) n.2)];exact h
 have gy:∀{k:Nat} {o:aI},(H.set a .dead)[k]?=some o→k≠c∧k∉ms→∀(t:aB) (nx:Int) (bd:L) (N:List Int),(st (H.set a .dead++t) (cn c fr nx bd ms' (A++l) N))[k]?=some o:=fun h n t nx bd N=>by have:=gx h n t [] nx bd N;rwa [ku3]at this
 refine⟨fun nx bd N'=>by simp[dX,gy g1 n1,gy g2 n2,gy g3 n3],?_⟩;have hy2:=hy _ c a' ms' b' (A++l) (aQ l.length w) hR (by omega) hw.enter hb;have hnum:(aQ l.length w).nums.length=(A++l).length:=eS (hwn.trans hA.symm);have hwl:(aS fr id (A++l) y (aQ l.length w)).2.nums.length=(aQ l.length w).nums.length:=(kM y (A++l) _ hnum).1;generalize aS fr id (A++l) y (aQ l.length w)=S at hy2 hwl ⊢;obtain⟨⟨r1,r2,r3,r4,r5⟩,w2⟩:=S;obtain⟨y1,y2,y3,y4,y5⟩:=y;have e1:(H.set a aI.dead++t).set a' .dead=H.set a .dead++t.set (a'-H.length) .dead:=by rw[show a'=H.length+(a'-H.length)by omega,wsk (by simp)];simp
 rw[e1]at hy2 ⊢;have hp2:(H.set a aI.dead++t.set (a'-H.length) .dead).length=p:=by rw[hp];simp
 have hl:∀ov,(st (H.set a .dead++t) ov).length=p:=fun ov=>by rw[cD,hp]
 have hl2:∀ov,(st (H.set a .dead++t.set (a'-H.length) .dead) ov).length=p:=fun ov=>by rw[cD,hp2]
 have g1':=gy g1 n1;have g2':=gy g2 n2;have g3':=gx g3 n3;have gs:=fun(o:aI) (u:aB) (nx:Int) (bd:L) (N:List Int)=>zM4 (G:=H.set a .dead++t.set (a'-H.length) .dead) (u:=u) (fr:=fr) (nx:=nx) (bd:=bd) (A:=A++l) (N:=N) (o:=o) (show ko<_ by simp;omega) n3.1 (nm k3 n3.2);simp only[stW,aA,kq1,kq5]at hy2 g2' ⊢;refine aU mixed jM7 (by simp) ?_;show vwp kp8 (st (H.set a .dead++t) (cn c fr w.next (bdL b' a' ms'.length) ms' (A++l) (aQ l.length w).nums)).length zz8 _ [(0,.one (.ptr kc 0)),(1,.one (.ptr ka 0)),(2,.one (.ptr ko 0))] (st (H.set a .dead++t) (cn c fr w.next (bdL b' a' ms'.length) ms' (A++l) (aQ l.length w).nums));conv in zz8=>cbv
 rw[aO];simp -implicitDefEqProofs only[oS.d,J0,J1,J2,J3,J4,J5,J6,J7,J8,↓reduceIte,reduceCtorEq,g1',g2',hl];refine qO rfl hy2 (by rw[hl];exact sK (hp▸hR.cl) (by have:=hR.a_;omega)) (fun v hv=>by
  rw[hl];simp only[kt6,ku1,or_false]at hv;rcases hv with rfl|rfl
  ·exact eA.2 (by omega)
  ·simp[clV,clL,aG]) ?_
 rintro _ _ ⟨rfl,b2,hb2,rfl⟩;refine⟨by simp[cD],?_⟩;simp -implicitDefEqProofs only[oS.d,J0,J1,J2,J3,J4,J5,J6,J7,J8,↓reduceIte,reduceCtorEq,g3',gs,hl,hl2,kr3];have hl3:∀o,((H.set a aI.dead++t.set (a'-H.length) .dead).set ko o).length=p:=fun o=>by rw[ku4,hp2]
 have hcl:∀o,bD (lt p) o=some o→Clo p ((H.set a aI.dead++t.set (a'-H.length) .dead).set ko o):=fun o ho x hx=>by
  rcases kv8 hx with hx|hx
  ·rw[←e1]at hx;rcases kv8 hx with hx|hx
   ·exact(hp▸hR.cl) x hx
   ·subst hx;rfl
  ·subst hx;exact ho
 have hmp:∀m∈ms',m<p:=hp▸hR.ms_;rw[←hp];have hO:bD (lt p) (.box [.nils,.d (.sl (r1.map aD)),.d (.sl (r2.map aE)),.d (.sl (kq7 r3)),.d (.sl (kq8 r4)),.d (.sl (kq9 r5))])=some (.box [.nils,.d (.sl (r1.map aD)),.d (.sl (r2.map aE)),.d (.sl (kq7 r3)),.d (.sl (kq8 r4)),.d (.sl (kq9 r5))]):=rfl;have hbd:=gT (n:=p) (j:=0) (j':=0) (js:=[0]) (k:=ms'.length) (b:=b2) rfl;refine aH (wid p [0]) (vs:=[]) rfl (pD (hl3 _) (hcl _ hO) rfl (bd':=bdL b2 p ms'.length) hbd (t1:=[arO b2 ms']) (by simp only[bA,kr6,sL hmp]) (r':=.tup []) rfl) ⟨rfl,b2,hb2,?_⟩;have:p=H.length+t.length:=by rw[hp];simp
 rw[this]
theorem zM5 {fr l:List Int} {y:Stx} (hy:CS fr y) (H:aB) (c a:Nat) (ms:List Nat) (b:Option Nat) (A:List Int) (w:WS) (hR:Rg H c a ms b A w.nums) (hs:ms.length+l.length+stn y<400000000) (hw:WOk fr w) (hb:(cL fr id A (l,y) w).2.next<1000000000000000) :
  VC kp8 107 [.one (.ptr c 0),abW l y] (st H (cn c fr w.next (bdL b a ms.length) ms A w.nums)) fun r h'=>r=abW (cL fr id A (l,y) w).1.1 (cL fr id A (l,y) w).1.2∧∃b',(b'=none→ms=[])∧h'=st (H.set a .dead) (cn c fr (cL fr id A (l,y) w).2.next (bdL b' H.length ms.length) ms A (cL fr id A (l,y) w).2.nums)++[arO b' ms]:=by
 have hl:∀ov,(st H ov).length=H.length:=cD H;obtain⟨q,hq⟩:∃q,q=H.length:=⟨_,rfl⟩;simp only[←hq]at hl;have hcq:c<q:=hq▸hR.c_;have haq:a<q:=hq▸hR.a_;have hmq:∀m∈ms,m<q:=hq▸hR.ms_;have gc:=hR.gc;have hlA:=hR.lA;have hlN:=hR.lN;have gd:∀(t:aB) (k:Nat),(H.set a .dead++t)[q+k]?=t[k]?:=fun t k=>wgk (by rw[ku4,hq]);have hnot:∀k,q+k≠c∧q+k∉ms:=fun k=>⟨by omega,fun h=>by have:=hmq _ h;omega⟩;have hdo:=fun(t:aB) (h0:t[0]?=some (.box [.ptr c 0])) (h1:t[1]?=some (.box (.d (.sl (nums l))::(aA y).map .d))) (h3:t[3]?=some (.box [.nils,.nils,.nils,.nils,.nils,.nils]))=>
  j82 (H:=H++t) (a:=a) (c:=c) (kc:=q+0) (ka:=q+1) (ko:=q+3) (ms:=ms) (A:=A) (l:=l) (w:=w) hy (by rw[wsl rfl (hq▸haq),gd];exact h0) (by rw[wsl rfl (hq▸haq),gd];exact h1) (by rw[wsl rfl (hq▸haq),gd];exact h3) (hnot 0) (hnot 1) (hnot 3) hs hlA hw hlN hb
 have hnum:(aQ l.length w).nums.length=(A++l).length:=eS (hlN.trans hlA.symm);have hwl:(aS fr id (A++l) y (aQ l.length w)).2.nums.length=ms.length+l.length:=by rw[(kM y (A++l) _ hnum).1,hnum,kq3,hlA]
 have hwk:WOk fr (aS fr id (A++l) y (aQ l.length w)).2:=uG y _ _ hw.enter;simp only[cL,hlA,dO]at hb ⊢;generalize aS fr id (A++l) y (aQ l.length w)=S at hdo hwl hwk hb ⊢;obtain⟨⟨r1,r2,r3,r4,r5⟩,w2⟩:=S;obtain⟨y1,y2,y3,y4,y5⟩:=y;simp only[abW,aA,kq1,kq5]at hdo ⊢;refine aU mixed jK9 (by simp) ?_;show vwp kp8 (st H (cn c fr w.next (bdL b a ms.length) ms A w.nums)).length zy0 _ [(0,.one (.ptr c 0)),(1,.agg [.d (.sl (nums l)),.d (.sl (y1.map aD)),.d (.sl (y2.map aE)),.d (.sl (kq7 y3)),.d (.sl (kq8 y4)),.d (.sl (kq9 y5))])] (st H (cn c fr w.next (bdL b a ms.length) ms A w.nums));conv in zy0=>cbv
 rw[aO];simp -implicitDefEqProofs only[oS.d,J0,J1,J2,J3,J4,J5,J6,J7,J8,↓reduceIte,reduceCtorEq,hl,wg0 (hl _),wgk (hl _),ws0 (hl _),wsk (hl _),bY (hl _),kr3,gc];refine j80 (k:=3) hR hq.symm (by simp only[dS,eE,eM,fP,fQ,fB,fU,fV,fW,fX,eA,fY,fZ,eN,gA,gB,kt7,ku1,false_implies,implies_true,and_true,true_and,and_self,kr4,kr7,kt2,ks7]<;>omega) (by simp only[dS,eE,eM,fP,fQ,fB,fU,fV,fW,fX,eA,fY,fZ,eN,gA,gB,kt7,ku1,false_implies,implies_true,and_true,true_and,and_self,kr4,kr7,kt2,ks7]<;>omega) (jf3 (hR.app (hq▸(by simp only[dS,eE,eM,fP,fQ,fB,fU,fV,fW,fX,eA,fY,fZ,eN,gA,gB,kt7,ku1,false_implies,implies_true,and_true,true_and,and_self,kr4,kr7,kt2,ks7]<;>omega))) (by omega) (by rw[kq3,←hq];exact(by simp only[dS,eE,eM,fP,fQ,fB,fU,fV,fW,fX,eA,fY,fZ,eN,gA,gB,kt7,ku1,false_implies,implies_true,and_true,true_and,and_self,kr4,kr7,kt2,ks7]<;>omega)) (hdo _ rfl rfl rfl) (by rw[kq3,←hq];simp) (hnot 3).1 (by omega) (hnot 3).2 rfl hwl hwk) ?_;intro b' hb';have hlD:∀ov,(st (H.set a .dead) ov).length=q:=fun ov=>by rw[cD,ku4,hq]
 simp -implicitDefEqProofs only[oS.d,J0,J1,J2,J3,J4,J5,J6,J7,J8,↓reduceIte,reduceCtorEq,hl,hlD,wg0 (hlD _),wgk (hlD _),ws0 (hlD _),wsk (hlD _),bY (hlD _),kr3];have hbd:=gT (n:=q) (j:=4) (j':=0) (js:=[4]) (k:=ms.length) (b:=b') rfl;refine aH (wid q [4]) (vs:=[.agg [.d (.sl (nums (dH (w2.nums.drop ms.length)))),.d (.sl (r1.map aD)),.d (.sl (r2.map aE)),.d (.sl (kq7 r3)),.d (.sl (kq8 r4)),.d (.sl (kq9 r5))]]) ?_ (pD (by rw[ku4,hq]) (hR.cloD (by omega)) rfl hbd (t1:=[arO b' ms]) (by simp only[bA,kr6,ks4,sL hmq]) rfl) ⟨rfl,b',hb',by rw[←hq];rfl⟩;simp[dI,cN,wgk (hlD _),mkV,List.lookup,nJ]
theorem j83 {H:aB} {c a kc ka ko:Nat} {ms:List Nat} {A fr:List Int} {u:ByteArray×FnE} {w:WS} (hx:CS fr u.2.2.1) (hy:CS fr u.2.2.2.2) (g1:(H.set a .dead)[kc]?=some (.box [.ptr c 0])) (g2:(H.set a .dead)[ka]?=some (.box ((bW u).map .d))) (g3:(H.set a .dead)[ko]?=some (.box [.nils,.nils,.nils,.nils,.nils,.nils,.nils,.nils,.nils,.nils,.nils,.nils]))
  (n1:kc≠c∧kc∉ms) (n2:ka≠c∧ka∉ms) (n3:ko≠c∧ko∉ms) (hs:ms.length+eQ u<400000000) (hA:A.length=ms.length) (hw:WOk fr w) (hwn:w.nums.length=ms.length) (hb:(fnF fr id A u.2 w).2.next<1000000000000000) :
  zM1 H c a ms A fr u.2.1 w (cL fr id (A++u.2.1) u.2.2.2 (aS fr id (A++u.2.1) u.2.2.1 (aQ u.2.1.length w)).2).2 223 [.ptr kc 0,.ptr ka 0,.ptr ko 0] ko
   (.box (.nils::(aA (fnF fr id A u.2 w).1.2.1).map .d++.d (.sl (nums (fnF fr id A u.2 w).1.2.2.1))::(aA (fnF fr id A u.2 w).1.2.2.2).map .d)):=by
 obtain⟨un,l,x,l2,y⟩:=u;have hz:=qH (un,l,x,l2,y);simp only[fnF]at hx hy hs hb hz ⊢;intro t a' b' ms' hms hR ha';have hcc:=hR.c_;obtain⟨p,hp⟩:∃p,p=(H.set a .dead++t).length:=⟨_,rfl⟩;have hml:ms'.length=ms.length+l.length:=by have:=hR.lA;simp only[kq3]at this;omega
 have lk:∀{k:Nat} {o:aI},(H.set a .dead)[k]?=some o→k<H.length:=fun h=>by have:=(kp9.1 h).1;simpa using this
 have nm:∀{k:Nat},k<H.length→k∉ms→k∉ms':=fun hk hm h=>by rcases hms _ h with h|h;exact hm h;omega
 have k1:=lk g1;have k2:=lk g2;have k3:=lk g3;have gx:∀{k:Nat} {o:aI},(H.set a .dead)[k]?=some o→k≠c∧k∉ms→∀(t u:aB) (nx:Int) (bd:L) (N:List Int),(st (H.set a .dead++t) (cn c fr nx bd ms' (A++l) N)++u)[k]?=some o:=fun h n t u nx bd N=>by rw[jf4 (by simpa using lk h) n.1 (nm (lk h) n.2)];exact h
 have gy:∀{k:Nat} {o:aI},(H.set a .dead)[k]?=some o→k≠c∧k∉ms→∀(t:aB) (nx:Int) (bd:L) (N:List Int),(st (H.set a .dead++t) (cn c fr nx bd ms' (A++l) N))[k]?=some o:=fun h n t nx bd N=>by have:=gx h n t [] nx bd N;rwa [ku3]at this
 refine⟨fun nx bd N'=>by simp[dX,gy g1 n1,gy g2 n2,gy g3 n3],?_⟩;have hnum:(aQ l.length w).nums.length=(A++l).length:=eS (hwn.trans hA.symm);have hbs:=kM (tk:=fr) (sb:=id) x (A++l) _ hnum;have hba:=uD (tk:=fr) (sb:=id) (A:=A++l) (l2,y) (aS fr id (A++l) x (aQ l.length w)).2 (hbs.1.trans hnum);have hwl:=hbs.1;have hwl2:=hba.1;have hnx:=hba.2.1;have hb1:(aS fr id (A++l) x (aQ l.length w)).2.next<1000000000000000:=by simp only[dO]at hb;omega
 have hx2:=hx _ c a' ms' b' (A++l) (aQ l.length w) hR (by omega) hw.enter hb1;have hy2:=fun H b1 a1 (hR1:Rg H c a1 ms' b1 (A++l) (aS fr id (A++l) x (aQ l.length w)).2.nums)=>zM5 (l:=l2) hy H c a1 ms' b1 (A++l) _ hR1 (by omega) (uG (tk:=fr) x (A++l) _ hw.enter) hb;have hNl:∀N:List Int,N.length=(aQ l.length w).nums.length→N.length=ms'.length:=fun N h=>by rw[h];exact hR.lN
 generalize aS fr id (A++l) x (aQ l.length w)=S at hx2 hy2 hwl hwl2 ⊢;obtain⟨⟨r1,r2,r3,r4,r5⟩,w2⟩:=S;simp only at hx2 hy2 hwl hwl2 ⊢;generalize cL fr id (A++l) (l2,y) w2=S2 at hy2 hwl2 ⊢;obtain⟨⟨l3,⟨z1,z2,z3,z4,z5⟩⟩,w3⟩:=S2;obtain⟨y1,y2,y3,y4,y5⟩:=y;obtain⟨x1,x2,x3,x4,x5⟩:=x;have e1:(H.set a aI.dead++t).set a' .dead=H.set a .dead++t.set (a'-H.length) .dead:=by rw[show a'=H.length+(a'-H.length)by omega,wsk (by simp)];simp
 have hp2:((H.set a aI.dead++t).set a' .dead).length=p:=by rw[hp,ku4]
 have hl:∀ov,(st (H.set a .dead++t) ov).length=p:=fun ov=>by rw[cD,hp]
 have hl2:∀ov,(st ((H.set a .dead++t).set a' .dead) ov).length=p:=fun ov=>by rw[cD,hp2]
 have g1':=gy g1 n1;have g2':=gy g2 n2;have g1x:=fun(u:aB) (nx:Int) (bd:L) (N:List Int)=>show(st ((H.set a .dead++t).set a' .dead) (cn c fr nx bd ms' (A++l) N)++u)[kc]?=some (.box [.ptr c 0])from by rw[e1];exact gx g1 n1 _ _ _ _ _
 have g2x:=fun(u:aB) (nx:Int) (bd:L) (N:List Int)=>show(st ((H.set a .dead++t).set a' .dead) (cn c fr nx bd ms' (A++l) N)++u)[ka]?=some (.box ((bW (un,l,.mk x1 x2 x3 x4 x5,l2,.mk y1 y2 y3 y4 y5)).map .d))from by rw[e1];exact gx g2 n2 _ _ _ _ _
 have g3':=fun(u:aB) (nx:Int) (bd:L) (N:List Int)=>show(st ((H.set a .dead++t).set a' .dead) (cn c fr nx bd ms' (A++l) N)++u)[ko]?=some (.box [.nils,.nils,.nils,.nils,.nils,.nils,.nils,.nils,.nils,.nils,.nils,.nils])from by rw[e1];exact gx g3 n3 _ _ _ _ _
 have gs:=fun(o:aI) (u:aB) (nx:Int) (bd:L) (N:List Int)=>zM4 (G:=(H.set a .dead++t).set a' .dead) (u:=u) (fr:=fr) (nx:=nx) (bd:=bd) (A:=A++l) (N:=N) (o:=o) (show ko<_ by simp;omega) n3.1 (nm k3 n3.2);have gq:=fun(o:aI) (u:aB) (nx:Int) (bd:L) (N:List Int)=>show(st (((H.set a .dead++t).set a' .dead).set ko o) (cn c fr nx bd ms' (A++l) N)++u)[ko]?=some o from by
  rw[wgl (cD _ _) (by simp;omega),jI,wO n3.1 (nm k3 n3.2),List.getElem?_set_self (by simp;omega)];rfl
 have gt:=fun(o o':aI) (u:aB) (nx:Int) (bd:L) (N:List Int)=>show(st (((H.set a .dead++t).set a' .dead).set ko o) (cn c fr nx bd ms' (A++l) N)++u).set ko o'=st (((H.set a .dead++t).set a' .dead).set ko o') (cn c fr nx bd ms' (A++l) N)++u from by
  rw[zM4 (by simp;omega) n3.1 (nm k3 n3.2),List.set_set]
 simp only[bW,cU,stW,abW,aA,kq1,kq5,kr0,List.nil_append]at hx2 hy2 g2' g2x ⊢;refine aU mixed jP8 (by simp) ?_;show vwp kp8 (st (H.set a .dead++t) (cn c fr w.next (bdL b' a' ms'.length) ms' (A++l) (aQ l.length w).nums)).length zD0 _ [(0,.one (.ptr kc 0)),(1,.one (.ptr ka 0)),(2,.one (.ptr ko 0))] (st (H.set a .dead++t) (cn c fr w.next (bdL b' a' ms'.length) ms' (A++l) (aQ l.length w).nums));conv in zD0=>cbv
 rw[aO];simp -implicitDefEqProofs only[oS.d,J0,J1,J2,J3,J4,J5,J6,J7,J8,↓reduceIte,reduceCtorEq,g1',g2',hl];refine qO rfl hx2 (by rw[hl];exact sK (hp▸hR.cl) (by have:=hR.a_;omega)) (fun v hv=>by
  rw[hl];simp only[kt6,ku1,or_false]at hv;rcases hv with rfl|rfl
  ·exact eA.2 (by omega)
  ·simp[clV,clL,aG]) ?_
 rintro _ _ ⟨rfl,b2,hb2,rfl⟩;refine⟨by simp[cD],?_⟩;rw[←hp];simp -implicitDefEqProofs only[oS.d,J0,J1,J2,J3,J4,J5,J6,J7,J8,↓reduceIte,reduceCtorEq,g1x,g2x,g3',gs,gq,gt,hl,hl2,kr3];have hmp:∀m∈ms',m<p:=hp▸hR.ms_;have hco:=fun k=>jf5 (k:=k) (b:=b2) hmp;refine zM2 (j:=0) (q:=p) (t:=[arO b2 ms']) hR hp.symm (by simp only[dS,eE,kr4,kr7,hco,and_self]) rfl hb2 hwl (fun v hv=>by
  simp only[kt6,ku1,or_false]at hv;rcases hv with rfl|rfl
  ·exact eA.2 (by omega)
  ·simp[clV,clL,aG]) (fun h=>hy2 _ _ _ h) ?_
 intro b3 hb3;simp -implicitDefEqProofs only[oS.d,J0,J1,J2,J3,J4,J5,J6,J7,J8,↓reduceIte,reduceCtorEq,g3',gs,gq,gt,hl,hl2,kr3];have hO:∀x:List D,bD (lt p) (.box (.nils::x.map .d))=some (.box (.nils::x.map .d)):=fun x=>eM.2 fun y hy=>by
  rcases kt6.1 hy with rfl|hy
  ·rfl
  ·obtain⟨d,_,rfl⟩:=List.mem_map.1 hy;rfl
 have hcl:∀o,bD (lt p) o=some o→Clo p (((H.set a aI.dead++t).set a' .dead).set ko o):=fun o ho x hx=>by
  rcases kv8 hx with hx|hx
  ·rcases kv8 hx with hx|hx
   ·exact(hp▸hR.cl) x hx
   ·subst hx;rfl
  ·subst hx;exact ho
 have hbd:=gT (n:=p) (j:=1) (j':=0) (js:=[1]) (k:=ms'.length) (b:=b3) rfl;refine aH (wid p [1]) (vs:=[]) rfl (pD (by rw[ku4,hp2]) (hcl _ (hO [.sl (r1.map aD),.sl (r2.map aE),.sl (kq7 r3),.sl (kq8 r4),.sl (kq9 r5),.sl (nums l3),.sl (z1.map aD),.sl (z2.map aE),.sl (kq7 z3),.sl (kq8 z4),.sl (kq9 z5)])) rfl (bd':=bdL b3 p ms'.length) hbd (t1:=[arO b3 ms']) (by simp only[bA,kr6,ks4,sL hmp]) (r':=.tup []) rfl) ⟨rfl,b3,hb3,?_⟩;have:p=H.length+t.length:=by rw[hp];simp
 rw[this]
section
variable {α β:Type} {f:α→WS→β×WS} {l:List α} {w:WS}
def Ok (fr:List Int) (k:Nat) (w:WS):Prop:=w.nums.length=k∧WOk fr w∧w.next<1000000000000000
theorem uH {fr:List Int} {c:α→Nat} {k:Nat} (h:∀a∈l,∀w,w.nums.length=k→Bh w (f a w).2 (c a)) (hk:∀a∈l,∀w,Gn fr w (f a w).2) (hn:w.nums.length=k) (ho:WOk fr w) (hb:(aX f l w).2.next<1000000000000000):∃(W:Nat→WS) (X:Nat→List β),(∀i,Ok fr k (W i))∧(∀i x,l[i]?=some x→(f x (W i)).2=W (i+1)∧X (i+1)=X i++[(f x (W i)).1])∧(∀i,i≤l.length→(X i).length=i)∧W 0=w∧X 0=[]∧aX f l w=(X l.length,W l.length):=
 ⟨fun i=>(aX f (l.take i) w).2,fun i=>(aX f (l.take i) w).1,fun i=>⟨(ja2 h i w hn).1.1.trans hn,lF _ (fun a ha=>hk a (List.mem_of_mem_take ha)) w ho,Int.lt_of_le_of_lt (ja2 h i w hn).2 hb⟩,
  fun i x hx=>by simp only[ja1 hx,and_self],fun i hi=>by simp only[zI9,List.length_take];omega,rfl,rfl,by simp only[List.take_length]⟩
end
theorem jW {m:Nat→Option Nat} {ty:Option TypeId} {cells:List L}:bD m (.bx ty cells)=(aG.renLs m cells).map (.bx ty):=rfl
theorem jX {m:Nat→Option Nat} {ty:Option TypeId} {fz:Bool} {sz v:Nat} {xs:List (List D)}:bD m (.ar ty fz sz v xs)=some (.ar ty fz sz v xs):=rfl
theorem jY {m:Nat→Option Nat}:bD m .dead=some .dead:=rfl
theorem jf6:∀(h:aB) (l r:List (Nat×Nat×Nat)),eP h (l++r)=(eP h l).bind fun h'=>eP h' r
 |_,[],_=>rfl
 |h,(a,b,c)::l,r=>by
  simp only[kr0,eP];cases sS h a b c with
  |none=>rfl
  |some h'=>exact jf6 h' l r
theorem uI {G T:aB} {q k j sz:Nat} {ty:Option TypeId} {cells:List L} (hG:G.length=q) (hk:T[k]?=some (.bx ty cells)) (hj:cells[j]?=some .nils):eP (G++T) [(q+k,j,sz)]=some (G++(T.set k (.bx ty (cells.set j (.own (q+T.length) 0 0)))++[.arr false sz 0 []])):=by
 have hkl:=(kp9.1 hk).1;simp only[eP,sS,wgk hG,hk,hj,bY hG,kr3,wsk hG];rw[List.set_append_left _ _ hkl]
theorem j84 {H t:aB} {c a q k j sz:Nat} {fr:List Int} {nx:Int} {b:Option Nat} {ms:List Nat} {A N N0:List Int} {ty:Option TypeId} {cells:List L} (hR:Rg H c a ms b A N0) (hq:H.length=q) (hk:t[k]?=some (.bx ty cells)) (hj:cells[j]?=some .nils) :
  eP (st H (cn c fr nx (bdL b a ms.length) ms A N)++t) (mvs b c (q+t.length)++[(q+k,j,sz)])=some (st (H.set a .dead) (cn c fr nx (bdL b (q+t.length) ms.length) ms A N)++((t++[arO b ms]).set k (.bx ty (cells.set j (.own (q+(t.length+1)) 0 0)))++[.arr false sz 0 []])):=by
 have hkl:=(kp9.1 hk).1;rw[jf6,je2 hR hq];simp only[Option.bind_some];rw[uI (by rw[cD,ku4,hq]) (by rw[kr9 hkl];exact hk) hj];simp
theorem j85 {H t:aB} {c a q j:Nat} {fr:List Int} {nx:Int} {b b1:Option Nat} {ms:List Nat} {A N N0:List Int} (hR:Rg H c a ms b A N0) (hq:H.length=q) (hj:t[j]?=some (arO b1 ms)) :
  eP (st (H.set a .dead) (cn c fr nx (bdL b1 (q+j) ms.length) ms A N)++t) (mvs b1 c (q+t.length))=some (st (H.set a .dead) (cn c fr nx (bdL b1 (q+t.length) ms.length) ms A N)++(t.set j .dead++[arO b1 ms])):=by
 have hl:(st (H.set a .dead) (cn c fr nx (bdL b1 (q+j) ms.length) ms A N)).length=q:=by rw[cD,ku4,hq]
 have hcq:=hR.c_;have h:=jd5 (h:=st (H.set a .dead) (cn c fr nx (bdL b1 (q+j) ms.length) ms A N)++t) (a:=q+j) (c:=c) (b:=b1) (ms:=ms) (k:=ms.length) (by rw[wgk hl];exact hj) (g_c (by rw[ku4];exact hcq)) (by omega);rw[bY hl]at h;rw[h,wsk hl,s_c (by rw[ku4];exact hcq),kr3]
end Go.Vt.Tryz
