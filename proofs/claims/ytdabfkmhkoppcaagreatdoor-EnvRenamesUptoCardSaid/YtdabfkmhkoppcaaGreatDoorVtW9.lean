import Derived.Test.YtdabfkmhkoppcaaGreatDoorVtW7
import Derived.Test.YtdabfkmhkoppcaaGreatDoorVtD13
set_option linter.all false
set_option maxHeartbeats 4000000
set_option maxRecDepth 100000
open Int renaming le_refl→km9,natCast_nonneg→kd8,toNat_natCast→kd9
open List renaming cons_append→kg6,drop_of_length_le→kh2,drop_zero→kj7,getElem?_cons_succ→kf9,getElem?_cons_zero→kf5,getElem?_map→ke6,getElem?_set_ne→kh7,length_append→ke1,length_cons→kf6,length_drop→kl6,length_map→ke9,length_nil→kg0,length_take→kg2,map_append→ko0,map_cons→ke5,map_nil→ke8,map_set→kn0,mem_cons→kg9,mem_map→kn1,mem_of_getElem?→kd7,mem_of_mem_take→kk1,nil_append→kh0,take_of_length_le→ke0,take_succ_cons→ki2,take_zero→kj3
open Nat renaming le_of_eq→kx3,le_refl→kf2,lt_or_ge→kf3,reduceAdd→kg8,reduceBEq→kk6,zero_le→kg1
open Go.Proofs.Tryz renaming prog→kd5
open Go.Vt.aA renaming funs→ke2,sigs→ke4,subs→ke3
open Go.Vt.aG renaming encs→kf0
open Go.Vt renaming mkV→J1
open Nat renaming reduceBEq→J2,reduceLeDiff→J5,reduceAdd→J6,reduceMul→J7
namespace Go.Vt.Tryz
open Go.Proofs Go.Vt.Al
def kZ (s:Stx):Prop:=VC kd5 142 [stW s] [] fun r h'=>r=stW (bQ ltN s)∧h'=[]
def gS (x:ByteArray×Stx):ByteArray×Stx:=(x.1,bQ ltN x.2)
def gF (x:ByteArray×FnE):ByteArray×FnE:=(x.1,x.2.1,bQ ltN x.2.2.1,x.2.2.2.1,bQ ltN x.2.2.2.2)
def gG (x:cN):cN:=(x.1,x.2.1,bQ ltN x.2.2)
theorem jV4 (l:List (ByteArray×FnE)) (hl:l.length<1000000000) (hnF:∀x∈l,x.1.size<100000000000) (H4:∀x∈l,kZ x.2.2.1∧kZ x.2.2.2.2):VC kd5 192 [.one (.d (.sl (ke2 l)))] [] fun r h'=>r = .one (.d (.sl (ke2 (bL ltN (fun m:ByteArray×FnE=>m.1) (l.map gF)))))∧h'=[]:=by
 refine aS aR jF1 (by simp) ?_;show vwp kd5 0 zv7 _ [(0,.one (.d (.sl (ke2 l))))] [];conv in zv7=>cbv
 rw[aO];simp -implicitDefEqProofs only[oS.d];refine bC (α:=Nat) (fun i=>[(4,.one (.d (.int .i64 i))),(3,.one (.own 0 i i)),(0,.one (.d (.sl (ke2 l))))])
  (fun i=>[.arr false 13 i ((bL ltN (fun m:ByteArray×FnE=>m.1) ((l.map gF).take i)).map bT)])
  (fun i=>i≤l.length) (fun i=>l.length-i) 0
  (gE [(3,13)] [] [0] rfl rfl rfl rfl rfl rfl) (kg1 _) ?_
 intro i hi;have hw:=bJ (a:=i) rfl (by omega);have hacc:(bL ltN (fun m:ByteArray×FnE=>m.1) ((l.map gF).take i)).length=i:=by rw[yN,kg2,ke9];omega
 have htk2:((bL ltN (fun m:ByteArray×FnE=>m.1) ((l.map gF).take i)).map bT).take i=(bL ltN (fun m:ByteArray×FnE=>m.1) ((l.map gF).take i)).map bT:=ke0 (by rw[ke9];omega);rcases kf3 i l.length with h5|h5
 case inl=>
  have hc:((i:Int)<(l.length:Int))=True:=by simp;omega
  obtain⟨x0,hx0⟩:=bA h5;have hmem:=kd7 hx0;have hcap:(i+1)*304≤aM∧i+1≤aM:=by simp[aM];omega
  have hgu:(ke2 l)[i]?=some (bT x0):=by rw[iL];rw[ke6,hx0];rfl
  have hxs:(l.map gF)[i]?=some (gF x0):=by rw[ke6,hx0];rfl
  have hst:=yM (lt:=ltN) (nm:=(fun m:ByteArray×FnE=>m.1)) hxs;have hxn:((fun m:ByteArray×FnE=>m.1) (gF x0)).size<100000000000:=hnF x0 hmem;have hyn:∀y∈(bL ltN (fun m:ByteArray×FnE=>m.1) ((l.map gF).take i)),((fun m:ByteArray×FnE=>m.1) y).size<100000000000:=fun y hy=>by
   obtain⟨z,hz,rfl⟩:=kn1.1 (kk1 (yO.1 hy));exact hnF z hz
  generalize hA:(bL ltN (fun m:ByteArray×FnE=>m.1) ((l.map gF).take i))=acc at hacc htk2 hst hyn ⊢;have t1:=(H4 x0 hmem).1;have t2:=(H4 x0 hmem).2;unfold kZ at t1 t2;have hge:gF x0=(x0.1,x0.2.1,bQ ltN x0.2.2.1,x0.2.2.2.1,bQ ltN x0.2.2.2.2):=rfl;rw[hge]at hst hxn;generalize bQ ltN x0.2.2.1=R at t1 hst hxn;generalize bQ ltN x0.2.2.2.2=R2 at t2 hst hxn;obtain⟨x1,x2,x3,x4,x5⟩:=R;obtain⟨xy1,xy2,xy3,xy4,xy5⟩:=R2;obtain⟨xn,xp,⟨o1,o2,o3,o4,o5⟩,xq,⟨oy1,oy2,oy3,oy4,oy5⟩⟩:=x0;clear hge hxs;simp only[bT,eU,aA,stW,kg6,kh0,ke5,ke8]at t1 t2 hgu;simp only at hst hxn;simp -implicitDefEqProofs only[oS.d,J1,J2,J5,J6,↓reduceIte,reduceCtorEq,hc,hgu,iN,kd8,kd9];refine aQ [] t1 rfl rfl rfl rfl ?_;simp -implicitDefEqProofs only[oS.d,J1,J2,J5,J6,↓reduceIte,reduceCtorEq,hgu,kd8,kd9];refine aQ [] t2 rfl rfl rfl rfl ?_;simp -implicitDefEqProofs only[oS.d,J1,J2,J5,J6,J7,↓reduceIte,reduceCtorEq,hgu,hcap,htk2,kd8,kd9];have e0:acc.map bT++[[.str xn,.sl (nums xp),.sl (x1.map aD),.sl (x2.map aE),.sl (ke3 x3),.sl (ke2 x4),.sl (ke4 x5),.sl (nums xq),.sl (xy1.map aD),.sl (xy2.map aE),.sl (ke3 xy3),.sl (ke2 xy4),.sl (ke4 xy5)]]=(acc.take i++(⟨xn,xp,⟨x1,x2,x3,x4,x5⟩,xq,⟨xy1,xy2,xy3,xy4,xy5⟩⟩:ByteArray×FnE)::acc.drop i).map bT:=by rw[ke0 (by omega),kh2 (by omega)];simp[bT,eU,aA]
  rw[e0];refine bC (α:=Nat) (fun k=>[(5,.one (.d (.int .i64 k))),(4,.one (.d (.int .i64 i))),(3,.one (.own 0 (i+1) (i+1))),(0,.one (.d (.sl (ke2 l))))])
   (fun k=>[.arr false 13 (i+1) ((acc.take k++(⟨xn,xp,⟨x1,x2,x3,x4,x5⟩,xq,⟨xy1,xy2,xy3,xy4,xy5⟩⟩:ByteArray×FnE)::acc.drop k).map bT)])
   (fun k=>k≤i∧∀z∈acc.drop k,ltN xn ((fun m:ByteArray×FnE=>m.1) z)=true) (fun k=>k) i
   (aL [0] rfl rfl rfl rfl) ⟨kf2 _,fun z hz=>by rw[kh2 (by omega)]at hz;cases hz⟩ ?_
  rintro k ⟨hk,hz⟩;generalize hL:(acc.take k++(⟨xn,xp,⟨x1,x2,x3,x4,x5⟩,xq,⟨xy1,xy2,xy3,xy4,xy5⟩⟩:ByteArray×FnE)::acc.drop k).map bT=L;rcases k with _|j
  ·have h00:((0:Int)<((0:Nat):Int))=False:=by simp
   have hins:acc.take 0++(⟨xn,xp,⟨x1,x2,x3,x4,x5⟩,xq,⟨xy1,xy2,xy3,xy4,xy5⟩⟩:ByteArray×FnE)::acc.drop 0=bL ltN (fun m:ByteArray×FnE=>m.1) ((l.map gF).take (i+1)):=by rw[hst];exact oL (lt:=ltN) (nm:=(fun m:ByteArray×FnE=>m.1)) (l:=acc) (k:=0) hz (fun _ h=>absurd h (by omega)) (by omega)
   simp -implicitDefEqProofs only[oS.d,J2,↓reduceIte,h00,hw];rw[←hL,hins];refine⟨i+1,by omega,by omega,?_⟩;exact(aL [0] rfl rfl rfl rfl)
  ·have h00:((0:Int)<((j+1:Nat):Int))=True:=by simp only[eq_iff_iff,iff_true];omega
   obtain⟨y,hy⟩:=bA (l:=acc) (i:=j) (by omega);have hyb:=hyn y (kd7 hy);have w1:IntKind.i64.wrap (((j+1:Nat):Int)-1)=(j:Int):=lM (a:=j+1) (c:=j) rfl (by omega);have l1:((j+1:Nat):Int)<((i+1:Nat):Int):=by omega
   have l2:(j:Int)<((i+1:Nat):Int):=by omega
   have p1:=yJ (n:=(⟨xn,xp,⟨x1,x2,x3,x4,x5⟩,xq,⟨xy1,xy2,xy3,xy4,xy5⟩⟩:ByteArray×FnE)) (l:=acc) (k:=j+1) (by omega);have p2:=yK (n:=(⟨xn,xp,⟨x1,x2,x3,x4,x5⟩,xq,⟨xy1,xy2,xy3,xy4,xy5⟩⟩:ByteArray×FnE)) (l:=acc) (by omega) hy;have p3:=yL (n:=(⟨xn,xp,⟨x1,x2,x3,x4,x5⟩,xq,⟨xy1,xy2,xy3,xy4,xy5⟩⟩:ByteArray×FnE)) (l:=acc) (by omega) hy;obtain⟨yn,yp,⟨y1,y2,y3,y4,y5⟩,yq,⟨yy1,yy2,yy3,yy4,yy5⟩⟩:=y;have hg1:((acc.take (j+1)++(⟨xn,xp,⟨x1,x2,x3,x4,x5⟩,xq,⟨xy1,xy2,xy3,xy4,xy5⟩⟩:ByteArray×FnE)::acc.drop (j+1)).map bT)[j+1]?=some [.str xn,.sl (nums xp),.sl (x1.map aD),.sl (x2.map aE),.sl (ke3 x3),.sl (ke2 x4),.sl (ke4 x5),.sl (nums xq),.sl (xy1.map aD),.sl (xy2.map aE),.sl (ke3 xy3),.sl (ke2 xy4),.sl (ke4 xy5)]:=by rw[ke6,p1];rfl
   have hg2:((acc.take (j+1)++(⟨xn,xp,⟨x1,x2,x3,x4,x5⟩,xq,⟨xy1,xy2,xy3,xy4,xy5⟩⟩:ByteArray×FnE)::acc.drop (j+1)).map bT)[j]?=some [.str yn,.sl (nums yp),.sl (y1.map aD),.sl (y2.map aE),.sl (ke3 y3),.sl (ke2 y4),.sl (ke4 y5),.sl (nums yq),.sl (yy1.map aD),.sl (yy2.map aE),.sl (ke3 yy3),.sl (ke2 yy4),.sl (ke4 yy5)]:=by rw[ke6,p2];rfl
   have hg3:(((acc.take (j+1)++(⟨xn,xp,⟨x1,x2,x3,x4,x5⟩,xq,⟨xy1,xy2,xy3,xy4,xy5⟩⟩:ByteArray×FnE)::acc.drop (j+1)).map bT).set (j+1) [.str yn,.sl (nums yp),.sl (y1.map aD),.sl (y2.map aE),.sl (ke3 y3),.sl (ke2 y4),.sl (ke4 y5),.sl (nums yq),.sl (yy1.map aD),.sl (yy2.map aE),.sl (ke3 yy3),.sl (ke2 yy4),.sl (ke4 yy5)])[j]?=some [.str yn,.sl (nums yp),.sl (y1.map aD),.sl (y2.map aE),.sl (ke3 y3),.sl (ke2 y4),.sl (ke4 y5),.sl (nums yq),.sl (yy1.map aD),.sl (yy2.map aE),.sl (ke3 yy3),.sl (ke2 yy4),.sl (ke4 yy5)]:=by rw[kh7 (by omega)];exact hg2
   have hsw:(((acc.take (j+1)++(⟨xn,xp,⟨x1,x2,x3,x4,x5⟩,xq,⟨xy1,xy2,xy3,xy4,xy5⟩⟩:ByteArray×FnE)::acc.drop (j+1)).map bT).set (j+1) [.str yn,.sl (nums yp),.sl (y1.map aD),.sl (y2.map aE),.sl (ke3 y3),.sl (ke2 y4),.sl (ke4 y5),.sl (nums yq),.sl (yy1.map aD),.sl (yy2.map aE),.sl (ke3 yy3),.sl (ke2 yy4),.sl (ke4 yy5)]).set j [.str xn,.sl (nums xp),.sl (x1.map aD),.sl (x2.map aE),.sl (ke3 x3),.sl (ke2 x4),.sl (ke4 x5),.sl (nums xq),.sl (xy1.map aD),.sl (xy2.map aE),.sl (ke3 xy3),.sl (ke2 xy4),.sl (ke4 xy5)]=(acc.take j++(⟨xn,xp,⟨x1,x2,x3,x4,x5⟩,xq,⟨xy1,xy2,xy3,xy4,xy5⟩⟩:ByteArray×FnE)::acc.drop j).map bT:=by rw[←p3,kn0,kn0];rfl
   rw[hL]at hg1 hg2 hg3 hsw;have hcm:=yI xn yn hxn hyb;simp -implicitDefEqProofs only[oS.d,J1,J2,J5,↓reduceIte,reduceCtorEq,h00,w1,l1,l2,hg1,hg2,kd8,kd9];refine aQ [] hcm rfl rfl rfl rfl ?_;by_cases hlt:bZ xn.data.toList yn.data.toList<0
   ·have e1:(bZ xn.data.toList yn.data.toList<0)=True:=by simp[hlt]
    simp -implicitDefEqProofs only[oS.d,J1,J2,J6,↓reduceIte,reduceCtorEq,e1,hg3,w1,l1,l2,hg1,hg2,kd8,kd9];rw[hsw,ko0,ke5];refine⟨j,⟨by omega,fun z hzz=>?_⟩,by omega,?_⟩
    ·rw[oK hy]at hzz;rcases kg9.1 hzz with rfl|h
     ·exact decide_eq_true hlt
     ·exact hz z h
    ·exact(aL [0] rfl rfl rfl rfl)
   ·have e1:(bZ xn.data.toList yn.data.toList<0)=False:=by simp[hlt]
    simp -implicitDefEqProofs only[oS.d,J1,J2,J6,↓reduceIte,e1,hw,w1,l1,l2,hg1,hg2,kd8,kd9];have hins:acc.take (j+1)++(⟨xn,xp,⟨x1,x2,x3,x4,x5⟩,xq,⟨xy1,xy2,xy3,xy4,xy5⟩⟩:ByteArray×FnE)::acc.drop (j+1)=bL ltN (fun m:ByteArray×FnE=>m.1) ((l.map gF).take (i+1)):=by rw[hst];exact oL (lt:=ltN) (nm:=(fun m:ByteArray×FnE=>m.1)) hz (fun z _ hzz=>by rw[show j+1-1=j from rfl,hy]at hzz;cases hzz;simp only[ltN,decide_eq_true_eq];exact hlt) (by omega)
    rw[←hL,hins];refine⟨i+1,by omega,by omega,?_⟩;exact(aL [0] rfl rfl rfl rfl)
 have hc:((i:Int)<(l.length:Int))=False:=by simp;omega
 have hie:i=l.length:=by omega
 subst hie;have hfull:(l.map gF).take l.length=(l.map gF):=ke0 (by rw[ke9];exact kf2 _);rw[hfull]at htk2;simp only[hfull];simp -implicitDefEqProofs only[oS.d,J2,↓reduceIte,hc,iN];apply aI []
 ·rfl
 ·simp[fin,bK,bB,bR,bM,bO,idx,cM];first|exact⟨rfl,rfl⟩|exact⟨rfl,rfl,rfl⟩
 rw[iL];exact⟨by rw[htk2],rfl⟩
theorem jV5 (l:List cN) (hl:l.length<1000000000) (hnG:∀x∈l,x.1.size<100000000000) (H5:∀x∈l,kZ x.2.2):VC kd5 193 [.one (.d (.sl (ke4 l)))] [] fun r h'=>r = .one (.d (.sl (ke4 (bL ltN (fun m:cN=>m.1) (l.map gG)))))∧h'=[]:=by
 refine aS aR jF2 (by simp) ?_;show vwp kd5 0 zv8 _ [(0,.one (.d (.sl (ke4 l))))] [];conv in zv8=>cbv
 rw[aO];simp -implicitDefEqProofs only[oS.d];refine bC (α:=Nat) (fun i=>[(4,.one (.d (.int .i64 i))),(3,.one (.own 0 i i)),(0,.one (.d (.sl (ke4 l))))])
  (fun i=>[.arr false 7 i ((bL ltN (fun m:cN=>m.1) ((l.map gG).take i)).map cA)])
  (fun i=>i≤l.length) (fun i=>l.length-i) 0
  (gE [(3,7)] [] [0] rfl rfl rfl rfl rfl rfl) (kg1 _) ?_
 intro i hi;have hw:=bJ (a:=i) rfl (by omega);have hacc:(bL ltN (fun m:cN=>m.1) ((l.map gG).take i)).length=i:=by rw[yN,kg2,ke9];omega
 have htk2:((bL ltN (fun m:cN=>m.1) ((l.map gG).take i)).map cA).take i=(bL ltN (fun m:cN=>m.1) ((l.map gG).take i)).map cA:=ke0 (by rw[ke9];omega);rcases kf3 i l.length with h5|h5
 case inl=>
  have hc:((i:Int)<(l.length:Int))=True:=by simp;omega
  obtain⟨x0,hx0⟩:=bA h5;have hmem:=kd7 hx0;have hcap:(i+1)*160≤aM∧i+1≤aM:=by simp[aM];omega
  have hgu:(ke4 l)[i]?=some (cA x0):=by rw[iM];rw[ke6,hx0];rfl
  have hxs:(l.map gG)[i]?=some (gG x0):=by rw[ke6,hx0];rfl
  have hst:=yM (lt:=ltN) (nm:=(fun m:cN=>m.1)) hxs;have hxn:((fun m:cN=>m.1) (gG x0)).size<100000000000:=hnG x0 hmem;have hyn:∀y∈(bL ltN (fun m:cN=>m.1) ((l.map gG).take i)),((fun m:cN=>m.1) y).size<100000000000:=fun y hy=>by
   obtain⟨z,hz,rfl⟩:=kn1.1 (kk1 (yO.1 hy));exact hnG z hz
  generalize hA:(bL ltN (fun m:cN=>m.1) ((l.map gG).take i))=acc at hacc htk2 hst hyn ⊢;have t1:=H5 x0 hmem;unfold kZ at t1;have hge:gG x0=(x0.1,x0.2.1,bQ ltN x0.2.2):=rfl;rw[hge]at hst hxn;generalize bQ ltN x0.2.2=R at t1 hst hxn;obtain⟨x1,x2,x3,x4,x5⟩:=R;obtain⟨xn,xp,⟨o1,o2,o3,o4,o5⟩⟩:=x0;clear hge hxs;simp only[cA,aA,stW,ke5,ke8]at t1 hgu;simp only at hst hxn;simp -implicitDefEqProofs only[oS.d,J1,J2,J6,↓reduceIte,reduceCtorEq,hc,hgu,iO,kd8,kd9];refine aQ [] t1 rfl rfl rfl rfl ?_;simp -implicitDefEqProofs only[oS.d,J1,J2,J5,J6,J7,↓reduceIte,reduceCtorEq,hgu,hcap,htk2,kd8,kd9];have e0:acc.map cA++[[.str xn,.sl (nums xp),.sl (x1.map aD),.sl (x2.map aE),.sl (ke3 x3),.sl (ke2 x4),.sl (ke4 x5)]]=(acc.take i++(⟨xn,xp,⟨x1,x2,x3,x4,x5⟩⟩:cN)::acc.drop i).map cA:=by rw[ke0 (by omega),kh2 (by omega)];simp[cA,aA]
  rw[e0];refine bC (α:=Nat) (fun k=>[(5,.one (.d (.int .i64 k))),(4,.one (.d (.int .i64 i))),(3,.one (.own 0 (i+1) (i+1))),(0,.one (.d (.sl (ke4 l))))])
   (fun k=>[.arr false 7 (i+1) ((acc.take k++(⟨xn,xp,⟨x1,x2,x3,x4,x5⟩⟩:cN)::acc.drop k).map cA)])
   (fun k=>k≤i∧∀z∈acc.drop k,ltN xn ((fun m:cN=>m.1) z)=true) (fun k=>k) i
   (aL [0] rfl rfl rfl rfl) ⟨kf2 _,fun z hz=>by rw[kh2 (by omega)]at hz;cases hz⟩ ?_
  rintro k ⟨hk,hz⟩;generalize hL:(acc.take k++(⟨xn,xp,⟨x1,x2,x3,x4,x5⟩⟩:cN)::acc.drop k).map cA=L;rcases k with _|j
  ·have h00:((0:Int)<((0:Nat):Int))=False:=by simp
   have hins:acc.take 0++(⟨xn,xp,⟨x1,x2,x3,x4,x5⟩⟩:cN)::acc.drop 0=bL ltN (fun m:cN=>m.1) ((l.map gG).take (i+1)):=by rw[hst];exact oL (lt:=ltN) (nm:=(fun m:cN=>m.1)) (l:=acc) (k:=0) hz (fun _ h=>absurd h (by omega)) (by omega)
   simp -implicitDefEqProofs only[oS.d,J2,↓reduceIte,h00,hw];rw[←hL,hins];refine⟨i+1,by omega,by omega,?_⟩;exact(aL [0] rfl rfl rfl rfl)
  ·have h00:((0:Int)<((j+1:Nat):Int))=True:=by simp only[eq_iff_iff,iff_true];omega
   obtain⟨y,hy⟩:=bA (l:=acc) (i:=j) (by omega);have hyb:=hyn y (kd7 hy);have w1:IntKind.i64.wrap (((j+1:Nat):Int)-1)=(j:Int):=lM (a:=j+1) (c:=j) rfl (by omega);have l1:((j+1:Nat):Int)<((i+1:Nat):Int):=by omega
   have l2:(j:Int)<((i+1:Nat):Int):=by omega
   have p1:=yJ (n:=(⟨xn,xp,⟨x1,x2,x3,x4,x5⟩⟩:cN)) (l:=acc) (k:=j+1) (by omega);have p2:=yK (n:=(⟨xn,xp,⟨x1,x2,x3,x4,x5⟩⟩:cN)) (l:=acc) (by omega) hy;have p3:=yL (n:=(⟨xn,xp,⟨x1,x2,x3,x4,x5⟩⟩:cN)) (l:=acc) (by omega) hy;obtain⟨yn,yp,⟨y1,y2,y3,y4,y5⟩⟩:=y;have hg1:((acc.take (j+1)++(⟨xn,xp,⟨x1,x2,x3,x4,x5⟩⟩:cN)::acc.drop (j+1)).map cA)[j+1]?=some [.str xn,.sl (nums xp),.sl (x1.map aD),.sl (x2.map aE),.sl (ke3 x3),.sl (ke2 x4),.sl (ke4 x5)]:=by rw[ke6,p1];rfl
   have hg2:((acc.take (j+1)++(⟨xn,xp,⟨x1,x2,x3,x4,x5⟩⟩:cN)::acc.drop (j+1)).map cA)[j]?=some [.str yn,.sl (nums yp),.sl (y1.map aD),.sl (y2.map aE),.sl (ke3 y3),.sl (ke2 y4),.sl (ke4 y5)]:=by rw[ke6,p2];rfl
   have hg3:(((acc.take (j+1)++(⟨xn,xp,⟨x1,x2,x3,x4,x5⟩⟩:cN)::acc.drop (j+1)).map cA).set (j+1) [.str yn,.sl (nums yp),.sl (y1.map aD),.sl (y2.map aE),.sl (ke3 y3),.sl (ke2 y4),.sl (ke4 y5)])[j]?=some [.str yn,.sl (nums yp),.sl (y1.map aD),.sl (y2.map aE),.sl (ke3 y3),.sl (ke2 y4),.sl (ke4 y5)]:=by rw[kh7 (by omega)];exact hg2
   have hsw:(((acc.take (j+1)++(⟨xn,xp,⟨x1,x2,x3,x4,x5⟩⟩:cN)::acc.drop (j+1)).map cA).set (j+1) [.str yn,.sl (nums yp),.sl (y1.map aD),.sl (y2.map aE),.sl (ke3 y3),.sl (ke2 y4),.sl (ke4 y5)]).set j [.str xn,.sl (nums xp),.sl (x1.map aD),.sl (x2.map aE),.sl (ke3 x3),.sl (ke2 x4),.sl (ke4 x5)]=(acc.take j++(⟨xn,xp,⟨x1,x2,x3,x4,x5⟩⟩:cN)::acc.drop j).map cA:=by rw[←p3,kn0,kn0];rfl
   rw[hL]at hg1 hg2 hg3 hsw;have hcm:=yI xn yn hxn hyb;simp -implicitDefEqProofs only[oS.d,J1,J2,J5,↓reduceIte,reduceCtorEq,h00,w1,l1,l2,hg1,hg2,kd8,kd9];refine aQ [] hcm rfl rfl rfl rfl ?_;by_cases hlt:bZ xn.data.toList yn.data.toList<0
   ·have e1:(bZ xn.data.toList yn.data.toList<0)=True:=by simp[hlt]
    simp -implicitDefEqProofs only[oS.d,J1,J2,J6,↓reduceIte,reduceCtorEq,e1,hg3,w1,l1,l2,hg1,hg2,kd8,kd9];rw[hsw,ko0,ke5];refine⟨j,⟨by omega,fun z hzz=>?_⟩,by omega,?_⟩
    ·rw[oK hy]at hzz;rcases kg9.1 hzz with rfl|h
     ·exact decide_eq_true hlt
     ·exact hz z h
    ·exact(aL [0] rfl rfl rfl rfl)
   ·have e1:(bZ xn.data.toList yn.data.toList<0)=False:=by simp[hlt]
    simp -implicitDefEqProofs only[oS.d,J1,J2,J6,↓reduceIte,e1,hw,w1,l1,l2,hg1,hg2,kd8,kd9];have hins:acc.take (j+1)++(⟨xn,xp,⟨x1,x2,x3,x4,x5⟩⟩:cN)::acc.drop (j+1)=bL ltN (fun m:cN=>m.1) ((l.map gG).take (i+1)):=by rw[hst];exact oL (lt:=ltN) (nm:=(fun m:cN=>m.1)) hz (fun z _ hzz=>by rw[show j+1-1=j from rfl,hy]at hzz;cases hzz;simp only[ltN,decide_eq_true_eq];exact hlt) (by omega)
    rw[←hL,hins];refine⟨i+1,by omega,by omega,?_⟩;exact(aL [0] rfl rfl rfl rfl)
 have hc:((i:Int)<(l.length:Int))=False:=by simp;omega
 have hie:i=l.length:=by omega
 subst hie;have hfull:(l.map gG).take l.length=(l.map gG):=ke0 (by rw[ke9];exact kf2 _);rw[hfull]at htk2;simp only[hfull];simp -implicitDefEqProofs only[oS.d,J2,↓reduceIte,hc,iO];apply aI []
 ·rfl
 ·simp[fin,bK,bB,bR,bM,bO,idx,cM];first|exact⟨rfl,rfl⟩|exact⟨rfl,rfl,rfl⟩
 rw[iM];exact⟨by rw[htk2],rfl⟩
theorem jV6 (s1:List Tym) (s2:List Vam) (s3:List (ByteArray×Stx)) (s4:List (ByteArray×FnE)) (s5:List cN) (h1:s1.length<1000000000) (h2:s2.length<1000000000) (h3:s3.length<1000000000) (h4:s4.length<1000000000) (h5':s5.length<1000000000)
  (hnT:∀x∈s1,x.name.size<100000000000) (hnV:∀x∈s2,x.name.size<100000000000) (hnS:∀x∈s3,x.1.size<100000000000) (hnF:∀x∈s4,x.1.size<100000000000) (hnG:∀x∈s5,x.1.size<100000000000)
  (H3:∀x∈s3,kZ x.2) (H4:∀x∈s4,kZ x.2.2.1∧kZ x.2.2.2.2) (H5:∀x∈s5,kZ x.2.2):kZ (.mk s1 s2 s3 s4 s5):=by
 have c4:=jV4 s4 h4 hnF H4;have c5:=jV5 s5 h5' hnG H5;unfold kZ;simp only[stW,aA,ke5,ke8];refine aS aR jD1 (by simp) ?_;show vwp kd5 0 zt7 _ [(0,.agg [.d (.sl (s1.map aD)),.d (.sl (s2.map aE)),.d (.sl (ke3 s3)),.d (.sl (ke2 s4)),.d (.sl (ke4 s5))])] [];conv in zt7=>cbv
 rw[aO];simp -implicitDefEqProofs only[oS.d,J6,↓reduceIte];refine bC (α:=Nat) (fun i=>[(4,.one (.d (.int .i64 i))),(1,.one (.ptr 0 0)),(3,.one (.ptr 2 0)),(2,.one (.ptr 1 0))])
  (fun i=>[.box [.d (.sl (s1.map aD)),.d (.sl (s2.map aE)),.d (.sl (ke3 s3)),.d (.sl (ke2 s4)),.d (.sl (ke4 s5))],.box [.nils,.nils,.nils,.nils,.nils],.box [.own 3 i i,.nils,.nils,.nils,.nils],.arr false 5 i ((bL ltN (fun m:Tym=>m.name) (s1.take i)).map aD)])
  (fun i=>i≤s1.length) (fun i=>s1.length-i) 0
  (gE [] [(2,0,5)] [0,1,2,3] rfl rfl rfl rfl rfl rfl) (kg1 _) ?_
 intro i hi;have hw:=bJ (a:=i) rfl (by omega);have hacc:(bL ltN (fun m:Tym=>m.name) (s1.take i)).length=i:=by rw[yN,kg2];omega
 have htk2:((bL ltN (fun m:Tym=>m.name) (s1.take i)).map aD).take i=(bL ltN (fun m:Tym=>m.name) (s1.take i)).map aD:=ke0 (by rw[ke9];omega);rcases kf3 i s1.length with h5|h5
 case inl=>
  have hc:((i:Int)<(s1.length:Int))=True:=by simp;omega
  obtain⟨x0,hx0⟩:=bA h5;have hmem:=kd7 hx0;have hcap:(i+1)*80≤aM∧i+1≤aM:=by simp[aM];omega
  have hgu:(s1.map aD)[i]?=some (aD x0):=by rw[ke6,hx0];rfl
  have hxs:s1[i]?=some (x0):=by exact hx0
  have hst:=yM (lt:=ltN) (nm:=(fun m:Tym=>m.name)) hxs;have hxn:((fun m:Tym=>m.name) (x0)).size<100000000000:=hnT x0 hmem;have hyn:∀y∈(bL ltN (fun m:Tym=>m.name) (s1.take i)),((fun m:Tym=>m.name) y).size<100000000000:=fun y hy=>by
   exact hnT y (kk1 (yO.1 hy))
  generalize hA:(bL ltN (fun m:Tym=>m.name) (s1.take i))=acc at hacc htk2 hst hyn ⊢;obtain⟨xn,⟨xk,xi,xl⟩,xc⟩:=x0;clear hxs;simp only[aD,aG,kg6,kh0]at hgu;simp only at hst hxn;simp -implicitDefEqProofs only[oS.d,J1,J2,J5,J6,J7,↓reduceIte,reduceCtorEq,hc,hgu,hcap,htk2,ke9,kd8,kd9];have e0:acc.map aD++[[.str xn,.int .i64 xk,.int .i64 xi,.sl (kf0 xl),.sl (xc.map bD)]]=(acc.take i++(⟨xn,⟨xk,xi,xl⟩,xc⟩:Tym)::acc.drop i).map aD:=by rw[ke0 (by omega),kh2 (by omega)];simp[aD,aG]
  rw[e0];refine bC (α:=Nat) (fun k=>[(5,.one (.d (.int .i64 k))),(4,.one (.d (.int .i64 i))),(1,.one (.ptr 0 0)),(3,.one (.ptr 2 0)),(2,.one (.ptr 1 0))])
   (fun k=>[.box [.d (.sl (s1.map aD)),.d (.sl (s2.map aE)),.d (.sl (ke3 s3)),.d (.sl (ke2 s4)),.d (.sl (ke4 s5))],.box [.nils,.nils,.nils,.nils,.nils],.box [.own 3 (i+1) (i+1),.nils,.nils,.nils,.nils],.arr false 5 (i+1) ((acc.take k++(⟨xn,⟨xk,xi,xl⟩,xc⟩:Tym)::acc.drop k).map aD)])
   (fun k=>k≤i∧∀z∈acc.drop k,ltN xn ((fun m:Tym=>m.name) z)=true) (fun k=>k) i
   (aL [0,1,2,3] rfl rfl rfl rfl) ⟨kf2 _,fun z hz=>by rw[kh2 (by omega)]at hz;cases hz⟩ ?_
  rintro k ⟨hk,hz⟩;generalize hL:(acc.take k++(⟨xn,⟨xk,xi,xl⟩,xc⟩:Tym)::acc.drop k).map aD=L;rcases k with _|j
  ·have h00:((0:Int)<((0:Nat):Int))=False:=by simp
   have hins:acc.take 0++(⟨xn,⟨xk,xi,xl⟩,xc⟩:Tym)::acc.drop 0=bL ltN (fun m:Tym=>m.name) (s1.take (i+1)):=by rw[hst];exact oL (lt:=ltN) (nm:=(fun m:Tym=>m.name)) (l:=acc) (k:=0) hz (fun _ h=>absurd h (by omega)) (by omega)
   simp -implicitDefEqProofs only[oS.d,J1,J2,J5,J6,↓reduceIte,reduceCtorEq,h00,hw];rw[←hL,hins];refine⟨i+1,by omega,by omega,?_⟩;exact(aL [0,1,2,3] rfl rfl rfl rfl)
  ·have h00:((0:Int)<((j+1:Nat):Int))=True:=by simp only[eq_iff_iff,iff_true];omega
   obtain⟨y,hy⟩:=bA (l:=acc) (i:=j) (by omega);have hyb:=hyn y (kd7 hy);have w1:IntKind.i64.wrap (((j+1:Nat):Int)-1)=(j:Int):=lM (a:=j+1) (c:=j) rfl (by omega);have l1:((j+1:Nat):Int)<((i+1:Nat):Int):=by omega
   have l2:(j:Int)<((i+1:Nat):Int):=by omega
   have p1:=yJ (n:=(⟨xn,⟨xk,xi,xl⟩,xc⟩:Tym)) (l:=acc) (k:=j+1) (by omega);have p2:=yK (n:=(⟨xn,⟨xk,xi,xl⟩,xc⟩:Tym)) (l:=acc) (by omega) hy;have p3:=yL (n:=(⟨xn,⟨xk,xi,xl⟩,xc⟩:Tym)) (l:=acc) (by omega) hy;obtain⟨yn,⟨yk,yi,yl⟩,yc⟩:=y;have hg1:((acc.take (j+1)++(⟨xn,⟨xk,xi,xl⟩,xc⟩:Tym)::acc.drop (j+1)).map aD)[j+1]?=some [.str xn,.int .i64 xk,.int .i64 xi,.sl (kf0 xl),.sl (xc.map bD)]:=by rw[ke6,p1];rfl
   have hg2:((acc.take (j+1)++(⟨xn,⟨xk,xi,xl⟩,xc⟩:Tym)::acc.drop (j+1)).map aD)[j]?=some [.str yn,.int .i64 yk,.int .i64 yi,.sl (kf0 yl),.sl (yc.map bD)]:=by rw[ke6,p2];rfl
   have hg3:(((acc.take (j+1)++(⟨xn,⟨xk,xi,xl⟩,xc⟩:Tym)::acc.drop (j+1)).map aD).set (j+1) [.str yn,.int .i64 yk,.int .i64 yi,.sl (kf0 yl),.sl (yc.map bD)])[j]?=some [.str yn,.int .i64 yk,.int .i64 yi,.sl (kf0 yl),.sl (yc.map bD)]:=by rw[kh7 (by omega)];exact hg2
   have hsw:(((acc.take (j+1)++(⟨xn,⟨xk,xi,xl⟩,xc⟩:Tym)::acc.drop (j+1)).map aD).set (j+1) [.str yn,.int .i64 yk,.int .i64 yi,.sl (kf0 yl),.sl (yc.map bD)]).set j [.str xn,.int .i64 xk,.int .i64 xi,.sl (kf0 xl),.sl (xc.map bD)]=(acc.take j++(⟨xn,⟨xk,xi,xl⟩,xc⟩:Tym)::acc.drop j).map aD:=by rw[←p3,kn0,kn0];rfl
   rw[hL]at hg1 hg2 hg3 hsw;have hcm:=yI xn yn hxn hyb;simp -implicitDefEqProofs only[oS.d,J1,J2,J5,J6,↓reduceIte,reduceCtorEq,h00,w1,l1,l2,hg1,hg2,kd8,kd9];refine aQ [] hcm rfl rfl rfl rfl ?_;by_cases hlt:bZ xn.data.toList yn.data.toList<0
   ·have e1:(bZ xn.data.toList yn.data.toList<0)=True:=by simp[hlt]
    simp -implicitDefEqProofs only[oS.d,J1,J2,J5,J6,↓reduceIte,reduceCtorEq,e1,hg3,w1,l1,l2,hg1,hg2,kd8,kd9];rw[hsw,ko0,ke5];refine⟨j,⟨by omega,fun z hzz=>?_⟩,by omega,?_⟩
    ·rw[oK hy]at hzz;rcases kg9.1 hzz with rfl|h
     ·exact decide_eq_true hlt
     ·exact hz z h
    ·exact(aL [0,1,2,3] rfl rfl rfl rfl)
   ·have e1:(bZ xn.data.toList yn.data.toList<0)=False:=by simp[hlt]
    simp -implicitDefEqProofs only[oS.d,J1,J2,J5,J6,↓reduceIte,reduceCtorEq,e1,hw,w1,l1,l2,hg1,hg2,kd8,kd9];have hins:acc.take (j+1)++(⟨xn,⟨xk,xi,xl⟩,xc⟩:Tym)::acc.drop (j+1)=bL ltN (fun m:Tym=>m.name) (s1.take (i+1)):=by rw[hst];exact oL (lt:=ltN) (nm:=(fun m:Tym=>m.name)) hz (fun z _ hzz=>by rw[show j+1-1=j from rfl,hy]at hzz;cases hzz;simp only[ltN,decide_eq_true_eq];exact hlt) (by omega)
    rw[←hL,hins];refine⟨i+1,by omega,by omega,?_⟩;exact(aL [0,1,2,3] rfl rfl rfl rfl)
 have hc:((i:Int)<(s1.length:Int))=False:=by simp;omega
 have hie:i=s1.length:=by omega
 subst hie;have hfull:s1.take s1.length=s1:=ke0 (by exact kf2 _);rw[hfull]at htk2;simp only[hfull];simp -implicitDefEqProofs only[oS.d,J1,J2,J5,J6,↓reduceIte,reduceCtorEq,hc,ke9];have k1:=htk2;clear hc h5 htk2 hacc hw hi hfull;refine bC (α:=Nat) (fun i=>[(7,.one (.d (.int .i64 i))),(1,.one (.ptr 0 0)),(3,.one (.ptr 2 0)),(2,.one (.ptr 1 0))])
  (fun i=>[.box [.d (.sl (s1.map aD)),.d (.sl (s2.map aE)),.d (.sl (ke3 s3)),.d (.sl (ke2 s4)),.d (.sl (ke4 s5))],.box [.nils,.nils,.nils,.nils,.nils],.box [.own 3 s1.length s1.length,.own 4 i i,.nils,.nils,.nils],.arr false 5 s1.length ((bL ltN (fun m:Tym=>m.name) s1).map aD),.arr false 5 i ((bL ltN (fun m:Vam=>m.name) (s2.take i)).map aE)])
  (fun i=>i≤s2.length) (fun i=>s2.length-i) 0
  (gE [] [(2,1,5)] [0,1,2,3,4] rfl rfl rfl rfl rfl rfl) (kg1 _) ?_
 intro i hi;have hw:=bJ (a:=i) rfl (by omega);have hacc:(bL ltN (fun m:Vam=>m.name) (s2.take i)).length=i:=by rw[yN,kg2];omega
 have htk2:((bL ltN (fun m:Vam=>m.name) (s2.take i)).map aE).take i=(bL ltN (fun m:Vam=>m.name) (s2.take i)).map aE:=ke0 (by rw[ke9];omega);rcases kf3 i s2.length with h5|h5
 case inl=>
  have hc:((i:Int)<(s2.length:Int))=True:=by simp;omega
  obtain⟨x0,hx0⟩:=bA h5;have hmem:=kd7 hx0;have hcap:(i+1)*64≤aM∧i+1≤aM:=by simp[aM];omega
  have hgu:(s2.map aE)[i]?=some (aE x0):=by rw[ke6,hx0];rfl
  have hxs:s2[i]?=some (x0):=by exact hx0
  have hst:=yM (lt:=ltN) (nm:=(fun m:Vam=>m.name)) hxs;have hxn:((fun m:Vam=>m.name) (x0)).size<100000000000:=hnV x0 hmem;have hyn:∀y∈(bL ltN (fun m:Vam=>m.name) (s2.take i)),((fun m:Vam=>m.name) y).size<100000000000:=fun y hy=>by
   exact hnV y (kk1 (yO.1 hy))
  generalize hA:(bL ltN (fun m:Vam=>m.name) (s2.take i))=acc at hacc htk2 hst hyn ⊢;obtain⟨xn,xg,⟨xk,xi,xl⟩⟩:=x0;clear hxs;simp only[aE,gP,aG]at hgu;simp only at hst hxn;simp -implicitDefEqProofs only[oS.d,J1,J2,J5,J6,J7,↓reduceIte,reduceCtorEq,hc,hgu,hcap,htk2,ke9,kd8,kd9];have e0:acc.map aE++[[.str xn,.int .i64 xg,.int .i64 xk,.int .i64 xi,.sl (kf0 xl)]]=(acc.take i++(⟨xn,xg,⟨xk,xi,xl⟩⟩:Vam)::acc.drop i).map aE:=by rw[ke0 (by omega),kh2 (by omega)];simp[aE,gP,aG]
  rw[e0];refine bC (α:=Nat) (fun k=>[(8,.one (.d (.int .i64 k))),(7,.one (.d (.int .i64 i))),(1,.one (.ptr 0 0)),(3,.one (.ptr 2 0)),(2,.one (.ptr 1 0))])
   (fun k=>[.box [.d (.sl (s1.map aD)),.d (.sl (s2.map aE)),.d (.sl (ke3 s3)),.d (.sl (ke2 s4)),.d (.sl (ke4 s5))],.box [.nils,.nils,.nils,.nils,.nils],.box [.own 3 s1.length s1.length,.own 4 (i+1) (i+1),.nils,.nils,.nils],.arr false 5 s1.length ((bL ltN (fun m:Tym=>m.name) s1).map aD),.arr false 5 (i+1) ((acc.take k++(⟨xn,xg,⟨xk,xi,xl⟩⟩:Vam)::acc.drop k).map aE)])
   (fun k=>k≤i∧∀z∈acc.drop k,ltN xn ((fun m:Vam=>m.name) z)=true) (fun k=>k) i
   (aL [0,1,2,3,4] rfl rfl rfl rfl) ⟨kf2 _,fun z hz=>by rw[kh2 (by omega)]at hz;cases hz⟩ ?_
  rintro k ⟨hk,hz⟩;generalize hL:(acc.take k++(⟨xn,xg,⟨xk,xi,xl⟩⟩:Vam)::acc.drop k).map aE=L;rcases k with _|j
  ·have h00:((0:Int)<((0:Nat):Int))=False:=by simp
   have hins:acc.take 0++(⟨xn,xg,⟨xk,xi,xl⟩⟩:Vam)::acc.drop 0=bL ltN (fun m:Vam=>m.name) (s2.take (i+1)):=by rw[hst];exact oL (lt:=ltN) (nm:=(fun m:Vam=>m.name)) (l:=acc) (k:=0) hz (fun _ h=>absurd h (by omega)) (by omega)
   simp -implicitDefEqProofs only[oS.d,J1,J2,J5,J6,↓reduceIte,reduceCtorEq,h00,hw];rw[←hL,hins];refine⟨i+1,by omega,by omega,?_⟩;exact(aL [0,1,2,3,4] rfl rfl rfl rfl)
  ·have h00:((0:Int)<((j+1:Nat):Int))=True:=by simp only[eq_iff_iff,iff_true];omega
   obtain⟨y,hy⟩:=bA (l:=acc) (i:=j) (by omega);have hyb:=hyn y (kd7 hy);have w1:IntKind.i64.wrap (((j+1:Nat):Int)-1)=(j:Int):=lM (a:=j+1) (c:=j) rfl (by omega);have l1:((j+1:Nat):Int)<((i+1:Nat):Int):=by omega
   have l2:(j:Int)<((i+1:Nat):Int):=by omega
   have p1:=yJ (n:=(⟨xn,xg,⟨xk,xi,xl⟩⟩:Vam)) (l:=acc) (k:=j+1) (by omega);have p2:=yK (n:=(⟨xn,xg,⟨xk,xi,xl⟩⟩:Vam)) (l:=acc) (by omega) hy;have p3:=yL (n:=(⟨xn,xg,⟨xk,xi,xl⟩⟩:Vam)) (l:=acc) (by omega) hy;obtain⟨yn,yg,⟨yk,yi,yl⟩⟩:=y;have hg1:((acc.take (j+1)++(⟨xn,xg,⟨xk,xi,xl⟩⟩:Vam)::acc.drop (j+1)).map aE)[j+1]?=some [.str xn,.int .i64 xg,.int .i64 xk,.int .i64 xi,.sl (kf0 xl)]:=by rw[ke6,p1];rfl
   have hg2:((acc.take (j+1)++(⟨xn,xg,⟨xk,xi,xl⟩⟩:Vam)::acc.drop (j+1)).map aE)[j]?=some [.str yn,.int .i64 yg,.int .i64 yk,.int .i64 yi,.sl (kf0 yl)]:=by rw[ke6,p2];rfl
   have hg3:(((acc.take (j+1)++(⟨xn,xg,⟨xk,xi,xl⟩⟩:Vam)::acc.drop (j+1)).map aE).set (j+1) [.str yn,.int .i64 yg,.int .i64 yk,.int .i64 yi,.sl (kf0 yl)])[j]?=some [.str yn,.int .i64 yg,.int .i64 yk,.int .i64 yi,.sl (kf0 yl)]:=by rw[kh7 (by omega)];exact hg2
   have hsw:(((acc.take (j+1)++(⟨xn,xg,⟨xk,xi,xl⟩⟩:Vam)::acc.drop (j+1)).map aE).set (j+1) [.str yn,.int .i64 yg,.int .i64 yk,.int .i64 yi,.sl (kf0 yl)]).set j [.str xn,.int .i64 xg,.int .i64 xk,.int .i64 xi,.sl (kf0 xl)]=(acc.take j++(⟨xn,xg,⟨xk,xi,xl⟩⟩:Vam)::acc.drop j).map aE:=by rw[←p3,kn0,kn0];rfl
   rw[hL]at hg1 hg2 hg3 hsw;have hcm:=yI xn yn hxn hyb;simp -implicitDefEqProofs only[oS.d,J1,J2,J5,J6,↓reduceIte,reduceCtorEq,h00,w1,l1,l2,hg1,hg2,kd8,kd9];refine aQ [] hcm rfl rfl rfl rfl ?_;by_cases hlt:bZ xn.data.toList yn.data.toList<0
   ·have e1:(bZ xn.data.toList yn.data.toList<0)=True:=by simp[hlt]
    simp -implicitDefEqProofs only[oS.d,J1,J2,J5,J6,↓reduceIte,reduceCtorEq,e1,hg3,w1,l1,l2,hg1,hg2,kd8,kd9];rw[hsw,ko0,ke5];refine⟨j,⟨by omega,fun z hzz=>?_⟩,by omega,?_⟩
    ·rw[oK hy]at hzz;rcases kg9.1 hzz with rfl|h
     ·exact decide_eq_true hlt
     ·exact hz z h
    ·exact(aL [0,1,2,3,4] rfl rfl rfl rfl)
   ·have e1:(bZ xn.data.toList yn.data.toList<0)=False:=by simp[hlt]
    simp -implicitDefEqProofs only[oS.d,J1,J2,J5,J6,↓reduceIte,reduceCtorEq,e1,hw,w1,l1,l2,hg1,hg2,kd8,kd9];have hins:acc.take (j+1)++(⟨xn,xg,⟨xk,xi,xl⟩⟩:Vam)::acc.drop (j+1)=bL ltN (fun m:Vam=>m.name) (s2.take (i+1)):=by rw[hst];exact oL (lt:=ltN) (nm:=(fun m:Vam=>m.name)) hz (fun z _ hzz=>by rw[show j+1-1=j from rfl,hy]at hzz;cases hzz;simp only[ltN,decide_eq_true_eq];exact hlt) (by omega)
    rw[←hL,hins];refine⟨i+1,by omega,by omega,?_⟩;exact(aL [0,1,2,3,4] rfl rfl rfl rfl)
 have hc:((i:Int)<(s2.length:Int))=False:=by simp;omega
 have hie:i=s2.length:=by omega
 subst hie;have hfull:s2.take s2.length=s2:=ke0 (by exact kf2 _);rw[hfull]at htk2;simp only[hfull];simp -implicitDefEqProofs only[oS.d,J1,J2,J5,J6,↓reduceIte,reduceCtorEq,hc,ke9];have k2:=htk2;clear hc h5 htk2 hacc hw hi hfull;refine bC (α:=Nat) (fun i=>[(10,.one (.d (.int .i64 i))),(1,.one (.ptr 0 0)),(3,.one (.ptr 2 0)),(2,.one (.ptr 1 0))])
  (fun i=>[.box [.d (.sl (s1.map aD)),.d (.sl (s2.map aE)),.d (.sl (ke3 s3)),.d (.sl (ke2 s4)),.d (.sl (ke4 s5))],.box [.nils,.nils,.nils,.nils,.nils],.box [.own 3 s1.length s1.length,.own 4 s2.length s2.length,.own 5 i i,.nils,.nils],.arr false 5 s1.length ((bL ltN (fun m:Tym=>m.name) s1).map aD),.arr false 5 s2.length ((bL ltN (fun m:Vam=>m.name) s2).map aE),.arr false 6 i ((bL ltN (fun m:ByteArray×Stx=>m.1) ((s3.map gS).take i)).map bX)])
  (fun i=>i≤s3.length) (fun i=>s3.length-i) 0
  (gE [] [(2,2,6)] [0,1,2,3,4,5] rfl rfl rfl rfl rfl rfl) (kg1 _) ?_
 intro i hi;have hw:=bJ (a:=i) rfl (by omega);have hacc:(bL ltN (fun m:ByteArray×Stx=>m.1) ((s3.map gS).take i)).length=i:=by rw[yN,kg2,ke9];omega
 have htk2:((bL ltN (fun m:ByteArray×Stx=>m.1) ((s3.map gS).take i)).map bX).take i=(bL ltN (fun m:ByteArray×Stx=>m.1) ((s3.map gS).take i)).map bX:=ke0 (by rw[ke9];omega);rcases kf3 i s3.length with h5|h5
 case inl=>
  have hc:((i:Int)<(s3.length:Int))=True:=by simp;omega
  obtain⟨x0,hx0⟩:=bA h5;have hmem:=kd7 hx0;have hcap:(i+1)*136≤aM∧i+1≤aM:=by simp[aM];omega
  have hgu:(ke3 s3)[i]?=some (bX x0):=by rw[kI];rw[ke6,hx0];rfl
  have hxs:(s3.map gS)[i]?=some (gS x0):=by rw[ke6,hx0];rfl
  have hst:=yM (lt:=ltN) (nm:=(fun m:ByteArray×Stx=>m.1)) hxs;have hxn:((fun m:ByteArray×Stx=>m.1) (gS x0)).size<100000000000:=hnS x0 hmem;have hyn:∀y∈(bL ltN (fun m:ByteArray×Stx=>m.1) ((s3.map gS).take i)),((fun m:ByteArray×Stx=>m.1) y).size<100000000000:=fun y hy=>by
   obtain⟨z,hz,rfl⟩:=kn1.1 (kk1 (yO.1 hy));exact hnS z hz
  generalize hA:(bL ltN (fun m:ByteArray×Stx=>m.1) ((s3.map gS).take i))=acc at hacc htk2 hst hyn ⊢;have t1:=H3 x0 hmem;unfold kZ at t1;have hge:gS x0=(x0.1,bQ ltN x0.2):=rfl;rw[hge]at hst hxn;generalize bQ ltN x0.2=R at t1 hst hxn;obtain⟨x1,x2,x3,x4,x5⟩:=R;obtain⟨xn,⟨o1,o2,o3,o4,o5⟩⟩:=x0;clear hge hxs;simp only[bX,aA,stW,ke5,ke8]at t1 hgu;simp only at hst hxn;simp -implicitDefEqProofs only[oS.d,J1,J2,J5,J6,↓reduceIte,reduceCtorEq,hc,hgu,gT,kd8,kd9];refine aQ [] t1 rfl rfl rfl rfl ?_;simp -implicitDefEqProofs only[oS.d,J1,J2,J5,J6,J7,↓reduceIte,reduceCtorEq,hgu,hcap,htk2,kd8,kd9];have e0:acc.map bX++[[.str xn,.sl (x1.map aD),.sl (x2.map aE),.sl (ke3 x3),.sl (ke2 x4),.sl (ke4 x5)]]=(acc.take i++(⟨xn,⟨x1,x2,x3,x4,x5⟩⟩:ByteArray×Stx)::acc.drop i).map bX:=by rw[ke0 (by omega),kh2 (by omega)];simp[bX,aA]
  rw[e0];refine bC (α:=Nat) (fun k=>[(11,.one (.d (.int .i64 k))),(10,.one (.d (.int .i64 i))),(1,.one (.ptr 0 0)),(3,.one (.ptr 2 0)),(2,.one (.ptr 1 0))])
   (fun k=>[.box [.d (.sl (s1.map aD)),.d (.sl (s2.map aE)),.d (.sl (ke3 s3)),.d (.sl (ke2 s4)),.d (.sl (ke4 s5))],.box [.nils,.nils,.nils,.nils,.nils],.box [.own 3 s1.length s1.length,.own 4 s2.length s2.length,.own 5 (i+1) (i+1),.nils,.nils],.arr false 5 s1.length ((bL ltN (fun m:Tym=>m.name) s1).map aD),.arr false 5 s2.length ((bL ltN (fun m:Vam=>m.name) s2).map aE),.arr false 6 (i+1) ((acc.take k++(⟨xn,⟨x1,x2,x3,x4,x5⟩⟩:ByteArray×Stx)::acc.drop k).map bX)])
   (fun k=>k≤i∧∀z∈acc.drop k,ltN xn ((fun m:ByteArray×Stx=>m.1) z)=true) (fun k=>k) i
   (aL [0,1,2,3,4,5] rfl rfl rfl rfl) ⟨kf2 _,fun z hz=>by rw[kh2 (by omega)]at hz;cases hz⟩ ?_
  rintro k ⟨hk,hz⟩;generalize hL:(acc.take k++(⟨xn,⟨x1,x2,x3,x4,x5⟩⟩:ByteArray×Stx)::acc.drop k).map bX=L;rcases k with _|j
  ·have h00:((0:Int)<((0:Nat):Int))=False:=by simp
   have hins:acc.take 0++(⟨xn,⟨x1,x2,x3,x4,x5⟩⟩:ByteArray×Stx)::acc.drop 0=bL ltN (fun m:ByteArray×Stx=>m.1) ((s3.map gS).take (i+1)):=by rw[hst];exact oL (lt:=ltN) (nm:=(fun m:ByteArray×Stx=>m.1)) (l:=acc) (k:=0) hz (fun _ h=>absurd h (by omega)) (by omega)
   simp -implicitDefEqProofs only[oS.d,J1,J2,J5,J6,↓reduceIte,reduceCtorEq,h00,hw];rw[←hL,hins];refine⟨i+1,by omega,by omega,?_⟩;exact(aL [0,1,2,3,4,5] rfl rfl rfl rfl)
  ·have h00:((0:Int)<((j+1:Nat):Int))=True:=by simp only[eq_iff_iff,iff_true];omega
   obtain⟨y,hy⟩:=bA (l:=acc) (i:=j) (by omega);have hyb:=hyn y (kd7 hy);have w1:IntKind.i64.wrap (((j+1:Nat):Int)-1)=(j:Int):=lM (a:=j+1) (c:=j) rfl (by omega);have l1:((j+1:Nat):Int)<((i+1:Nat):Int):=by omega
   have l2:(j:Int)<((i+1:Nat):Int):=by omega
   have p1:=yJ (n:=(⟨xn,⟨x1,x2,x3,x4,x5⟩⟩:ByteArray×Stx)) (l:=acc) (k:=j+1) (by omega);have p2:=yK (n:=(⟨xn,⟨x1,x2,x3,x4,x5⟩⟩:ByteArray×Stx)) (l:=acc) (by omega) hy;have p3:=yL (n:=(⟨xn,⟨x1,x2,x3,x4,x5⟩⟩:ByteArray×Stx)) (l:=acc) (by omega) hy;obtain⟨yn,⟨y1,y2,y3,y4,y5⟩⟩:=y;have hg1:((acc.take (j+1)++(⟨xn,⟨x1,x2,x3,x4,x5⟩⟩:ByteArray×Stx)::acc.drop (j+1)).map bX)[j+1]?=some [.str xn,.sl (x1.map aD),.sl (x2.map aE),.sl (ke3 x3),.sl (ke2 x4),.sl (ke4 x5)]:=by rw[ke6,p1];rfl
   have hg2:((acc.take (j+1)++(⟨xn,⟨x1,x2,x3,x4,x5⟩⟩:ByteArray×Stx)::acc.drop (j+1)).map bX)[j]?=some [.str yn,.sl (y1.map aD),.sl (y2.map aE),.sl (ke3 y3),.sl (ke2 y4),.sl (ke4 y5)]:=by rw[ke6,p2];rfl
   have hg3:(((acc.take (j+1)++(⟨xn,⟨x1,x2,x3,x4,x5⟩⟩:ByteArray×Stx)::acc.drop (j+1)).map bX).set (j+1) [.str yn,.sl (y1.map aD),.sl (y2.map aE),.sl (ke3 y3),.sl (ke2 y4),.sl (ke4 y5)])[j]?=some [.str yn,.sl (y1.map aD),.sl (y2.map aE),.sl (ke3 y3),.sl (ke2 y4),.sl (ke4 y5)]:=by rw[kh7 (by omega)];exact hg2
   have hsw:(((acc.take (j+1)++(⟨xn,⟨x1,x2,x3,x4,x5⟩⟩:ByteArray×Stx)::acc.drop (j+1)).map bX).set (j+1) [.str yn,.sl (y1.map aD),.sl (y2.map aE),.sl (ke3 y3),.sl (ke2 y4),.sl (ke4 y5)]).set j [.str xn,.sl (x1.map aD),.sl (x2.map aE),.sl (ke3 x3),.sl (ke2 x4),.sl (ke4 x5)]=(acc.take j++(⟨xn,⟨x1,x2,x3,x4,x5⟩⟩:ByteArray×Stx)::acc.drop j).map bX:=by rw[←p3,kn0,kn0];rfl
   rw[hL]at hg1 hg2 hg3 hsw;have hcm:=yI xn yn hxn hyb;simp -implicitDefEqProofs only[oS.d,J1,J2,J5,J6,↓reduceIte,reduceCtorEq,h00,w1,l1,l2,hg1,hg2,kd8,kd9];refine aQ [] hcm rfl rfl rfl rfl ?_;by_cases hlt:bZ xn.data.toList yn.data.toList<0
   ·have e1:(bZ xn.data.toList yn.data.toList<0)=True:=by simp[hlt]
    simp -implicitDefEqProofs only[oS.d,J1,J2,J5,J6,↓reduceIte,reduceCtorEq,e1,hg3,w1,l1,l2,hg1,hg2,kd8,kd9];rw[hsw,ko0,ke5];refine⟨j,⟨by omega,fun z hzz=>?_⟩,by omega,?_⟩
    ·rw[oK hy]at hzz;rcases kg9.1 hzz with rfl|h
     ·exact decide_eq_true hlt
     ·exact hz z h
    ·exact(aL [0,1,2,3,4,5] rfl rfl rfl rfl)
   ·have e1:(bZ xn.data.toList yn.data.toList<0)=False:=by simp[hlt]
    simp -implicitDefEqProofs only[oS.d,J1,J2,J5,J6,↓reduceIte,reduceCtorEq,e1,hw,w1,l1,l2,hg1,hg2,kd8,kd9];have hins:acc.take (j+1)++(⟨xn,⟨x1,x2,x3,x4,x5⟩⟩:ByteArray×Stx)::acc.drop (j+1)=bL ltN (fun m:ByteArray×Stx=>m.1) ((s3.map gS).take (i+1)):=by rw[hst];exact oL (lt:=ltN) (nm:=(fun m:ByteArray×Stx=>m.1)) hz (fun z _ hzz=>by rw[show j+1-1=j from rfl,hy]at hzz;cases hzz;simp only[ltN,decide_eq_true_eq];exact hlt) (by omega)
    rw[←hL,hins];refine⟨i+1,by omega,by omega,?_⟩;exact(aL [0,1,2,3,4,5] rfl rfl rfl rfl)
 have hc:((i:Int)<(s3.length:Int))=False:=by simp;omega
 have hie:i=s3.length:=by omega
 subst hie;have hfull:(s3.map gS).take s3.length=(s3.map gS):=ke0 (by rw[ke9];exact kf2 _);rw[hfull]at htk2;simp only[hfull];simp -implicitDefEqProofs only[oS.d,J1,J2,J5,J6,↓reduceIte,reduceCtorEq,hc,gT];have k3:=htk2;clear hc h5 htk2 hacc hw hi hfull;refine aQ [] c4 rfl rfl rfl rfl ?_;simp -implicitDefEqProofs only[oS.d,J1,J2,J5,J6,↓reduceIte,reduceCtorEq];refine aQ [] c5 rfl rfl rfl rfl ?_;simp -implicitDefEqProofs only[oS.d,J1,J2,J5,J6,↓reduceIte,reduceCtorEq];apply aI []
 ·simp only[cX,eH,kk6,cond_true,cond_false,mI,cI,kf9,kf5,mkV,kj7,kf6,kg0,kg8,kf2,if_true,ki2,kj3];rfl
 ·first|rfl|(simp[fin,bK,bB,bR,bM,dG,bO,idx,cM,aJ];first|exact⟨rfl,rfl⟩|exact⟨rfl,rfl,rfl⟩)
 rw[k1,k2,k3];refine⟨?_,rfl⟩;show V.agg _=V.agg ((aA (bQ ltN (.mk s1 s2 s3 s4 s5))).map .d);simp only[bQ,aA,uS,uT,uU,kI,ke5,ke8];rfl
theorem jV7:∀(n:Nat) (t:List Int) (k:Int),t.length≤n→cW t k≤k+t.length:=by
 intro n;induction n with
 |zero=>
  intro t k h;have:t=[]:=List.length_eq_zero_iff.1 (by omega);subst this;rw[uR (by simp)];simp
 |succ n ih=>
  intro t k h;by_cases hk:k∈t
  ·rw[cW,dif_pos hk];have h2:=List.length_erase_of_mem hk;have h3:=List.length_pos_of_mem hk;have:=ih (t.erase k) (k+1) (by omega);omega
  ·rw[uR hk];omega
def Nb (C:Nat) (w w':WS) (c:Nat):Prop:=w'.next≤w.next+((c*C:Nat):Int)
theorem Nb.refl (C:Nat) (w:WS):Nb C w w 0:=by unfold Nb;simp
theorem Nb.trans {C:Nat} {a b c:WS} {m n:Nat} (h1:Nb C a b m) (h2:Nb C b c n):Nb C a c (m+n):=by
 unfold Nb at *;rw[Nat.add_mul];omega
theorem Nb.mono {C:Nat} {a b:WS} {m n:Nat} (h:Nb C a b m) (hm:m≤n):Nb C a b n:=by
 unfold Nb at *;have:=Nat.mul_le_mul_right C hm;omega
section
variable {tk:List Int} {sb:Int→Int}
theorem jV8 {A:List Int} (n:Int) (w:WS):Nb (tk.length+1) w (cG tk sb A n w).2 1:=by
 unfold Nb cG;have h:=jV7 tk.length tk w.next (kf2 _);cases cE A n with
 |some i=>
  simp only;split
  ·simp only;omega
  ·simp only;omega
 |none=>simp only;omega
theorem pM {α β:Type} {f:α→WS→β×WS} {c:α→Nat} {C:Nat}:∀(l:List α),(∀a∈l,∀w,Nb C w (f a w).2 (c a))→∀w,Nb C w (aH f l w).2 (aT c l)
 |[],_,w=>Nb.refl C w
 |a::l,h,w=>(h a (by simp) w).trans (pM l (fun b hb=>h b (by simp[hb])) _)
theorem zE6 {A:List Int}:∀(t:Ty) (w:WS),Nb (tk.length+1) w (tyF tk sb A t w).2 (tyn t):=by
 intro t;induction t using Ty.ind with
 |h k n l ih=>
 intro w;simp only[tyF,tyn,lP,oC];refine Nb.trans (b:=if k=fK then (cG tk sb A n w).2 else w) ?_ (pM l ih _);split
 ·exact jV8 n w
 ·exact(Nb.refl _ w).mono (kg1 _)
theorem jV9 {A:List Int} (c:Ct) (w:WS):Nb (tk.length+1) w (ctF tk sb A c w).2 (ctn c):=by
 simp only[ctF,lP,qP];exact(pM c.args (fun t _ w=>zE6 t w) w).mono (by omega)
theorem jW0 {A:List Int} (m:Tym) (w:WS):Nb (tk.length+1) w (bY tk sb A m w).2 (cJ m):=by
 have h:=(zE6 (tk:=tk) (sb:=sb) (A:=A) m.t w).trans (pM (f:=ctF tk sb A) (c:=ctn) m.cts (fun c _ w=>jV9 c w) (tyF tk sb A m.t w).2);exact h.mono (by rw[kV];omega)
theorem jW1 {A:List Int} (m:Vam) (w:WS):Nb (tk.length+1) w (cH tk sb A m w).2 (cO m):=(zE6 (tk:=tk) (sb:=sb) (A:=A) m.s.t w).mono (by rw[qO];omega)
theorem jW2:∀(s:Stx) (A:List Int) (w:WS),Nb (tk.length+1) w (aZ tk sb A s w).2 (stn s):=by
 intro s;induction s using Stx.ind with
 |h ts vs ss fs gs i1 i2 i3=>
 intro A w;rw[sQ];simp only[stn,oD,oE,oF];have b1:=pM (f:=bY tk sb A) (c:=cJ) ts (fun m _ w=>jW0 m w) w;have b2:=pM (f:=cH tk sb A) (c:=cO) vs (fun m _ w=>jW1 m w) (aH (bY tk sb A) ts w).2;generalize (aH (cH tk sb A) vs (aH (bY tk sb A) ts w).2).2=w2 at b2 ⊢;have b3:=pM (f:=cT tk sb A) (c:=eB) (C:=tk.length+1) ss (fun x hx w=>(i1 x hx A w).mono (by rw[nG];omega)) w2;generalize (aH (cT tk sb A) ss w2).2=w3 at b3 ⊢;have b4:=pM (f:=dB tk sb A) (c:=dZ) (C:=tk.length+1) fs (fun x hx w=>by
  have k1:=(i2 x hx).1 (A++x.2.1) (aY x.2.1.length w);have k2:=(i2 x hx).2 (A++x.2.1++x.2.2.2.1) (aY x.2.2.2.1.length (aZ tk sb (A++x.2.1) x.2.2.1 (aY x.2.1.length w)).2);have k3:Nb (tk.length+1) w (dB tk sb A x w).2 _:=k1.trans k2;exact k3.mono (by rw[lK];omega)) w3
 generalize (aH (dB tk sb A) fs w3).2=w4 at b4 ⊢;have b5:=pM (f:=dJ tk sb A) (c:=eD) (C:=tk.length+1) gs (fun x hx w=>by
  have k1:=i3 x hx (A++x.2.1) (aY x.2.1.length w);have k3:Nb (tk.length+1) w (dJ tk sb A x w).2 _:=k1;exact k3.mono (by rw[nH];omega)) w4
 exact((((b1.trans b2).trans b3).trans b4).trans b5).mono (by omega)
end
theorem z49 {α:Type} {lt:ByteArray→ByteArray→Bool} {nm:α→ByteArray} {f:α→Nat} {x:α}:∀l:List α,aT f (dH lt nm x l)=f x+aT f l
 |[]=>rfl
 |y::r=>by unfold dH;split<;>simp only[aT,z49 r]<;>omega
theorem z50 {α:Type} {f:α→Nat}:∀(l r:List α),aT f (l++r)=aT f l+aT f r
 |[],r=>by simp[aT]
 |a::l,r=>by simp only[kg6,aT,z50 l r];omega
theorem z52 {α:Type} {f:α→Nat}:∀l:List α,aT f l.reverse=aT f l
 |[]=>rfl
 |a::l=>by simp only[List.reverse_cons,z50,z52 l,aT];omega
theorem jW3 {α:Type} {lt:ByteArray→ByteArray→Bool} {nm:α→ByteArray} {f:α→Nat} (l:List α):aT f (bL lt nm l)=aT f l:=by
 have:∀(l acc:List α),aT f (l.foldl (fun acc x=>dH lt nm x acc) acc)=aT f acc+aT f l:=by
  intro l;induction l with
  |nil=>intro acc;simp[aT]
  |cons x l ih=>intro acc;simp only[List.foldl_cons,ih,z49,aT];omega
 unfold bL;rw[z52,this];simp[aT]
theorem z54 {α β:Type} {f:β→Nat} {g:α→β}:∀l:List α,aT f (l.map g)=aT (fun a=>f (g a)) l
 |[]=>rfl
 |a::l=>by simp only[ke5,aT,z54 l]
theorem zf1 {α:Type} {f g:α→Nat}:∀{l:List α},(∀a∈l,f a=g a)→aT f l=aT g l
 |[],_=>rfl
 |a::l,h=>by
  simp only[aT];rw[h a (by simp),zf1 (f:=f) (g:=g) (l:=l) fun b hb=>h b (List.mem_cons_of_mem _ hb)]
theorem mQ {α β:Type} {f:α→Nat} {g:β→Nat} {F:α→WS→β×WS} {k:Nat}:∀{l:List α},(∀a∈l,∀w,w.nums.length=k→g (F a w).1≤f a∧(F a w).2.nums.length=k)→∀w,w.nums.length=k→aT g (aH F l w).1≤aT f l
 |[],_,_,_=>kf2 _
 |a::l,h,w,hw=>by
  have h1:=h a (by simp) w hw;have h2:=mQ (g:=g) (f:=f) (F:=F) (k:=k) (l:=l) (fun b hb=>h b (by simp[hb])) (F a w).2 h1.2;simp only[aH,aT];omega
theorem zf2 (lt:ByteArray→ByteArray→Bool):∀s:Stx,stn (bQ lt s)=stn s:=by
 intro s;induction s using Stx.ind with
 |h ts vs ss fs gs i1 i2 i3=>
 simp only[bQ,stn,oD,oE,oF,jW3,uS,uT,uU,z54];have e1:aT (fun a:ByteArray×Stx=>eB (a.1,bQ lt a.2)) ss=aT eB ss:=zf1 fun a ha=>by simp only[eB,i1 a ha]
 have e2:aT (fun a:ByteArray×FnE=>dZ (a.1,a.2.1,bQ lt a.2.2.1,a.2.2.2.1,bQ lt a.2.2.2.2)) fs=aT dZ fs:=zf1 fun a ha=>by simp only[dZ,(i2 a ha).1,(i2 a ha).2]
 have e3:aT (fun a:cN=>eD (a.1,a.2.1,bQ lt a.2.2)) gs=aT eD gs:=zf1 fun a ha=>by simp only[eD,i3 a ha]
 rw[e1,e2,e3]
section
variable {tk:List Int} {sb:Int→Int}
theorem zE7 {A:List Int}:∀(t:Ty) (w:WS),tyn (tyF tk sb A t w).1=tyn t:=by
 intro t;induction t using Ty.ind with
 |h k n l ih=>
 intro w;have h:∀(l:List Ty),(∀t∈l,∀w,tyn (tyF tk sb A t w).1=tyn t)→∀w,tyn.go (tyF.go tk sb A l w).1=tyn.go l:=by
  intro l;induction l with
  |nil=>intro _ w;rfl
  |cons t r ih2=>intro h w;simp only[tyF.go,tyn.go,h t (by simp) w,ih2 fun t ht=>h t (by simp[ht])]
 simp only[tyF,tyn,h l ih]
theorem jW4 {A:List Int} (c:Ct) (w:WS):ctn (ctF tk sb A c w).1=ctn c:=by
 have h:∀(l:List Ty) (w:WS),tyn.go (tyF.go tk sb A l w).1=tyn.go l:=by
  intro l;induction l with
  |nil=>intro w;rfl
  |cons t r ih2=>intro w;simp only[tyF.go,tyn.go,zE7 t w,ih2]
 simp only[ctF,ctn,h]
theorem jW5 {A:List Int} (m:Tym) (w:WS):cJ (bY tk sb A m w).1=cJ m:=by
 have h:∀(l:List Ct) (w:WS),aT ctn (aH (ctF tk sb A) l w).1=aT ctn l:=by
  intro l;induction l with
  |nil=>intro w;rfl
  |cons t r ih2=>intro w;simp only[aH,aT,jW4 t w,ih2]
 simp only[bY,cJ,zE7,h]
theorem jW6 {A:List Int} (m:Vam) (w:WS):cO (cH tk sb A m w).1=cO m:=by simp only[cH,cO,zE7]
theorem zE8:∀(s:Stx) (A:List Int) (w:WS),w.nums.length=A.length→stn (aZ tk sb A s w).1≤stn s:=by
 intro s;induction s using Stx.ind with
 |h ts vs ss fs gs i1 i2 i3=>
 intro A w hw;rw[sQ];simp only[stn,oD,oE,oF];have b1:=kY (f:=bY tk sb A) (c:=cJ) ts (fun m _ w=>sR m w) w;have b2:=kY (f:=cH tk sb A) (c:=cO) vs (fun m _ w=>sS m w) (aH (bY tk sb A) ts w).2;have c1:=mQ (f:=cJ) (g:=cJ) (F:=bY tk sb A) (k:=A.length) (l:=ts) (fun m _ w hw=>⟨kx3 (jW5 m w),(sR m w).1.trans hw⟩) w hw;have hw1:=b1.1.trans hw;have c2:=mQ (f:=cO) (g:=cO) (F:=cH tk sb A) (k:=A.length) (l:=vs) (fun m _ w hw=>⟨kx3 (jW6 m w),(sS m w).1.trans hw⟩) _ hw1;have hw2:=b2.1.trans hw1;generalize (aH (cH tk sb A) vs (aH (bY tk sb A) ts w).2).2=w2 at hw2 ⊢;have c3:=mQ (f:=eB) (g:=eB) (F:=cT tk sb A) (k:=A.length) (l:=ss) (fun x hx w hw=>⟨by have:=i1 x hx A w hw;simp only[cT,eB];omega,(jC x.2 A w hw).1.trans hw⟩) w2 hw2;have b3:=iP (f:=cT tk sb A) (c:=eB) (k:=A.length) ss (fun x _ w hw=>(jC x.2 A w hw).mono (by rw[nG];omega)) w2 hw2;have hw3:=b3.1.trans hw2;generalize (aH (cT tk sb A) ss w2).2=w3 at hw3 ⊢;have c4:=mQ (f:=dZ) (g:=dZ) (F:=dB tk sb A) (k:=A.length) (l:=fs) (fun x hx w hw=>by
  have h1:=(i2 x hx).1 (A++x.2.1) (aY x.2.1.length w) (eQ hw);have k1:=jC (tk:=tk) (sb:=sb) x.2.2.1 (A++x.2.1) (aY x.2.1.length w) (eQ hw);have l1:=k1.1.trans (eQ (l:=x.2.1) hw);have h2:=(i2 x hx).2 (A++x.2.1++x.2.2.2.1) (aY x.2.2.2.1.length (aZ tk sb (A++x.2.1) x.2.2.1 (aY x.2.1.length w)).2) (eQ l1);have k2:=jC (tk:=tk) (sb:=sb) x.2.2.2.2 (A++x.2.1++x.2.2.2.1) (aY x.2.2.2.1.length (aZ tk sb (A++x.2.1) x.2.2.1 (aY x.2.1.length w)).2) (eQ l1);have l2:=k2.1.trans (eQ (l:=x.2.2.2.1) l1);refine⟨?_,(uZ x.2 w hw).1.trans hw⟩;simp only[dB,fnF,bU,dZ,dQ];have u1:=yH ((((aZ tk sb (A++x.2.1++x.2.2.2.1) x.2.2.2.2 (aY x.2.2.2.1.length (aZ tk sb (A++x.2.1) x.2.2.1 (aY x.2.1.length w)).2)).2.nums.take (A++x.2.1).length)).drop A.length);have u2:=yH ((aZ tk sb (A++x.2.1++x.2.2.2.1) x.2.2.2.2 (aY x.2.2.2.1.length (aZ tk sb (A++x.2.1) x.2.2.1 (aY x.2.1.length w)).2)).2.nums.drop (A++x.2.1).length);simp only[kl6,kg2,ke1]at u1 u2 l2 ⊢;omega) w3 hw3
 have b4:=iP (f:=dB tk sb A) (c:=dZ) (k:=A.length) fs (fun x _ w hw=>(uZ x.2 w hw).mono (by rw[lK];omega)) w3 hw3;have hw4:=b4.1.trans hw3;generalize (aH (dB tk sb A) fs w3).2=w4 at hw4 ⊢;have c5:=mQ (f:=eD) (g:=eD) (F:=dJ tk sb A) (k:=A.length) (l:=gs) (fun x hx w hw=>by
  have h1:=i3 x hx (A++x.2.1) (aY x.2.1.length w) (eQ hw);have k1:=jC (tk:=tk) (sb:=sb) x.2.2 (A++x.2.1) (aY x.2.1.length w) (eQ hw);have l1:=k1.1.trans (eQ (l:=x.2.1) hw);refine⟨?_,(oJ x.2 w hw).1.trans hw⟩;simp only[dJ,bU,eD];have u1:=yH ((aZ tk sb (A++x.2.1) x.2.2 (aY x.2.1.length w)).2.nums.drop A.length);simp only[kl6,ke1]at u1 l1 ⊢;omega) w4 hw4
 omega
end
def cK:Stx→Prop
 |.mk ts vs ss fs gs=>(∀m∈ts,m.name.size<100000000000)∧(∀m∈vs,m.name.size<100000000000)∧goS ss∧goF fs∧goG gs
 where
 goS:List (ByteArray×Stx)→Prop
  |[]=>True
  |(s,x)::l=>s.size<100000000000∧cK x∧goS l
 goF:List (ByteArray×List Int×Stx×List Int×Stx)→Prop
  |[]=>True
  |(s,_,x,_,y)::l=>s.size<100000000000∧cK x∧cK y∧goF l
 goG:List (ByteArray×List Int×Stx)→Prop
  |[]=>True
  |(s,_,y)::l=>s.size<100000000000∧cK y∧goG l
theorem nmS:∀{l:List (ByteArray×Stx)},cK.goS l→∀x∈l,x.1.size<100000000000∧cK x.2
 |(s,x)::l,h,y,hy=>by
  rcases kg9.1 hy with rfl|hy
  ·exact⟨h.1,h.2.1⟩
  ·exact nmS h.2.2 y hy
theorem nmF:∀{l:List (ByteArray×FnE)},cK.goF l→∀x∈l,x.1.size<100000000000∧cK x.2.2.1∧cK x.2.2.2.2
 |(s,p,x,q,y)::l,h,z,hz=>by
  rcases kg9.1 hz with rfl|hz
  ·exact⟨h.1,h.2.1,h.2.2.1⟩
  ·exact nmF h.2.2.2 z hz
theorem nmG:∀{l:List cN},cK.goG l→∀x∈l,x.1.size<100000000000∧cK x.2.2
 |(s,q,y)::l,h,z,hz=>by
  rcases kg9.1 hz with rfl|hz
  ·exact⟨h.1,h.2.1⟩
  ·exact nmG h.2.2 z hz
theorem jW7:∀(s:Stx),stn s<1000000000→cK s→kZ s:=by
 intro s;induction s using Stx.ind with
 |h ts vs ss fs gs i1 i2 i3=>
 intro hs hn;simp only[stn]at hs;obtain⟨n1,n2,n3,n4,n5⟩:=hn;have l1:=dV (f:=cJ) (fun t=>by unfold cJ;omega) ts;have l2:=dV (f:=cO) (fun t=>by unfold cO;omega) vs;have l3:=zd0 ss;have l4:=zd1 fs;have l5:=zd2 gs;refine jV6 ts vs ss fs gs (by omega) (by omega) (by omega) (by omega) (by omega) n1 n2 (fun x hx=>(nmS n3 x hx).1) (fun x hx=>(nmF n4 x hx).1) (fun x hx=>(nmG n5 x hx).1)
  (fun x hx=>i1 x hx ?_ (nmS n3 x hx).2) (fun x hx=>⟨(i2 x hx).1 ?_ (nmF n4 x hx).2.1,(i2 x hx).2 ?_ (nmF n4 x hx).2.2⟩) (fun x hx=>i3 x hx ?_ (nmG n5 x hx).2)
 ·have:=pH hx;omega
 ·have:=iX hx;omega
 ·have:=iX hx;omega
 ·have:=nF hx;omega
theorem vC:aF [] []=id:=by funext n;rfl
theorem qX {tk:List Int} {sb:Int→Int} (a:List Int×Stx) (hs:stn a.2<10000000) (ht:tk.length<10000000) :
  (bU tk sb [] a w0).2.next<1000000000000000∧(bU tk sb [] a w0).2.free.length≤stn a.2:=by
 have h1:=jW2 (tk:=tk) (sb:=sb) a.2 ([]++a.1) (aY a.1.length w0);have h2:=oJ (tk:=tk) (sb:=sb) (A:=[]) a w0 rfl;refine⟨?_,by have:=h2.2.2;simpa[w0]using this⟩;have h3:(bU tk sb [] a w0).2.next≤0+((stn a.2*(tk.length+1):Nat):Int):=h1;have h4:stn a.2*(tk.length+1)≤10000000*10000000:=Nat.mul_le_mul (by omega) (by omega);omega
theorem jW8 (l:List Int) (s:Stx) (hl:l.length<10000000) (hs:stn s<10000000):VC kd5 104 [abW l s] [] fun r h'=>r = .one (.own 0 (fv (cR (l,s))) (cR (l,s)).length)∧h'=[.arr false 1 (fv (cR (l,s))) (nums (cR (l,s)))]:=by
 have hb:=qX (tk:=[]) (sb:=id) (l,s) hs (by simp);have c:=vA [] [] [] (zf0 [] [] [] (by simp) (by simp) (by simp) s (by omega)) l [] w0 0 [] rfl (by simp;omega) (by simp[w0];omega) (km9 _) (by rw[vC];exact hb.1);rw[vC]at c;unfold cR;generalize bU [] id [] (l,s) w0=R at c;obtain⟨⟨r0,⟨r1,r2,r3,r4,r5⟩⟩,w1⟩:=R;obtain⟨s1,s2,s3,s4,s5⟩:=s;simp only[wb,wa,wf]at c;simp only[abW,aA,ke5,ke8]at c ⊢;refine aS aR zW1 (by simp) ?_;show vwp kd5 0 xR _ [(0,.agg [.d (.sl (nums l)),.d (.sl (s1.map aD)),.d (.sl (s2.map aE)),.d (.sl (ke3 s3)),.d (.sl (ke2 s4)),.d (.sl (ke4 s5))])] [];conv in xR=>cbv
 rw[aO];simp -implicitDefEqProofs only[oS.d,J1,J2,J6,↓reduceIte];refine mF [(1,0,2),(1,5,1)] _ [.box [.d (.sl (nums l)),.d (.sl (s1.map aD)),.d (.sl (s2.map aE)),.d (.sl (ke3 s3)),.d (.sl (ke2 s4)),.d (.sl (ke4 s5))],.box [.own 2 0 0,.d (.sl []),.d (.sl []),.d (.int .i64 0),.d (.sl []),.own 3 0 0],.arr false 2 0 [],.arr false 1 0 []] [1,2,3] rfl (kc4 _)
  ⟨kb4 _,⟨.inl rfl,.inl rfl,.inr (.inl ⟨rfl,rfl⟩),.inr (.inl ⟨rfl,rfl⟩),.inl rfl,.inr (.inl ⟨rfl,rfl⟩),.inl rfl,trivial⟩,kb4 _,kb4 _,trivial⟩ c rfl rfl rfl ?_
 rintro _ _ ⟨rfl,v1,X1,rfl⟩;refine⟨_,_,rfl,?_⟩;simp -implicitDefEqProofs only[oS.d,J1,J2,J5,J6,↓reduceIte,reduceCtorEq];apply aI [3];rfl;rfl;exact⟨rfl,rfl⟩
theorem jW9 (l:List Int) (s:Stx) (hl:l.length<10000000) (hs:stn s<10000000):VC kd5 104 [abW l s] [] fun r h'=>r = .one (.d (.sl (nums (cR (l,s)))))∧h'=[]:=by
 have hb:=qX (tk:=[]) (sb:=id) (l,s) hs (by simp);have c:=vA [] [] [] (zf0 [] [] [] (by simp) (by simp) (by simp) s (by omega)) l [] w0 0 [] rfl (by simp;omega) (by simp[w0];omega) (km9 _) (by rw[vC];exact hb.1);rw[vC]at c;unfold cR;generalize bU [] id [] (l,s) w0=R at c;obtain⟨⟨r0,⟨r1,r2,r3,r4,r5⟩⟩,w1⟩:=R;obtain⟨s1,s2,s3,s4,s5⟩:=s;simp only[wb,wa,wf]at c;simp only[abW,aA,ke5,ke8]at c ⊢;refine aS aR zW1 (by simp) ?_;show vwp kd5 0 xR _ [(0,.agg [.d (.sl (nums l)),.d (.sl (s1.map aD)),.d (.sl (s2.map aE)),.d (.sl (ke3 s3)),.d (.sl (ke2 s4)),.d (.sl (ke4 s5))])] [];conv in xR=>cbv
 rw[aO];simp -implicitDefEqProofs only[oS.d,J1,J2,J6,↓reduceIte];refine mF [(1,0,2),(1,5,1)] _ [.box [.d (.sl (nums l)),.d (.sl (s1.map aD)),.d (.sl (s2.map aE)),.d (.sl (ke3 s3)),.d (.sl (ke2 s4)),.d (.sl (ke4 s5))],.box [.own 2 0 0,.d (.sl []),.d (.sl []),.d (.int .i64 0),.d (.sl []),.own 3 0 0],.arr false 2 0 [],.arr false 1 0 []] [1,2,3] rfl (kc4 _)
  ⟨kb4 _,⟨.inl rfl,.inl rfl,.inr (.inl ⟨rfl,rfl⟩),.inr (.inl ⟨rfl,rfl⟩),.inl rfl,.inr (.inl ⟨rfl,rfl⟩),.inl rfl,trivial⟩,kb4 _,kb4 _,trivial⟩ c rfl rfl rfl ?_
 rintro _ _ ⟨rfl,v1,X1,rfl⟩;refine⟨_,_,rfl,?_⟩;simp -implicitDefEqProofs only[oS.d,J1,J2,J5,J6,↓reduceIte,reduceCtorEq];apply aI []
 ·rfl
 ·simp[fin,bK,bB,bR,bM,bO,idx,cM];first|exact⟨rfl,rfl⟩|exact⟨rfl,rfl,rfl⟩
 exact⟨by rw[ke0 (by rw[bW];exact kf2 _)],rfl⟩
theorem zf3 (l:List Int) (s:Stx) (hl:l.length<10000000) (hs:stn s<10000000) (hn:cK s):VC kd5 98 [abW l s] [] fun r h'=>r=abW (dW ltN (l,s)).1 (dW ltN (l,s)).2∧h'=[]:=by
 have c1:=jW9 l s hl hs;have c2:=jW7 s (by omega) hn;have hf:=(qX (tk:=[]) (sb:=id) (l,s) hs (by simp)).2;have hfl:(cR (l,s)).length≤stn s:=hf;have hss:=zf2 ltN s;have hb:=qX (tk:=cR (l,s)) (sb:=id) (l,bQ ltN s) (by simp only;omega) (by omega);have c3:=vA [] [] (cR (l,s)) (zf0 [] [] (cR (l,s)) (by simp) (by simp) (by omega) (bQ ltN s) (by omega)) l [] w0 0 [] rfl (by simp;omega) (by simp[w0];omega) (km9 _) (by rw[vC];exact hb.1);rw[vC]at c3;unfold kZ at c2;unfold dW;simp only;generalize cR (l,s)=fr at c1 c3;generalize bQ ltN s=t at c2 c3;generalize bU fr id [] (l,t) w0=R at c3;obtain⟨⟨r0,⟨r1,r2,r3,r4,r5⟩⟩,w1⟩:=R;obtain⟨s1,s2,s3,s4,s5⟩:=s;obtain⟨t1,t2,t3,t4,t5⟩:=t;simp only[wb,wa,wf]at c3;simp only[abW,stW,aA,ke5,ke8]at c1 c2 c3 ⊢;refine aS aR jB5 (by simp) ?_;show vwp kd5 0 zs1 _ [(0,.agg [.d (.sl (nums l)),.d (.sl (s1.map aD)),.d (.sl (s2.map aE)),.d (.sl (ke3 s3)),.d (.sl (ke2 s4)),.d (.sl (ke4 s5))])] [];conv in zs1=>cbv
 rw[aO];simp -implicitDefEqProofs only[oS.d,J1,J2,J6,↓reduceIte];refine aQ [] c1 rfl rfl rfl rfl ?_;simp -implicitDefEqProofs only[oS.d,J1,J2,J5,J6,↓reduceIte,reduceCtorEq];refine aQ [] c2 rfl rfl rfl rfl ?_;simp -implicitDefEqProofs only[oS.d,J1,J2,J5,J6,↓reduceIte,reduceCtorEq];refine mF [(2,0,2),(2,5,1)] _ [.box [.d (.sl (nums l)),.d (.sl (s1.map aD)),.d (.sl (s2.map aE)),.d (.sl (ke3 s3)),.d (.sl (ke2 s4)),.d (.sl (ke4 s5))],.box [.nils,.nils,.nils,.nils,.nils,.nils],.box [.own 3 0 0,.d (.sl []),.d (.sl []),.d (.int .i64 0),.d (.sl (nums fr)),.own 4 0 0],.arr false 2 0 [],.arr false 1 0 []] [2,3,4] rfl (kc4 _)
  ⟨kb4 _,kb4 _,⟨.inl rfl,.inl rfl,.inr (.inl ⟨rfl,rfl⟩),.inr (.inl ⟨rfl,rfl⟩),.inl rfl,.inl rfl,.inl rfl,trivial⟩,kb4 _,kb4 _,trivial⟩ c3 rfl rfl rfl ?_
 rintro _ _ ⟨rfl,v1,X1,rfl⟩;refine⟨_,_,rfl,?_⟩;simp -implicitDefEqProofs only[oS.d,J2,J6,↓reduceIte];apply aI []
 ·simp only[cX,eH,kk6,cond_true,cond_false,lI,cI,kf9,kf5,mkV,kj7,kf6,kg0,kg8,kf2,if_true,ki2,kj3];rfl
 ·first|rfl|(simp[fin,bK,bB,bR,bM,dG,bO,idx,cM,aJ,cL,bH,aJ.renLs];first|exact⟨rfl,rfl⟩|exact⟨rfl,rfl,rfl⟩)
 exact⟨rfl,rfl⟩
theorem zE9 {tk:List Int} {sb:Int→Int} (a:List Int×Stx) (w:WS) (hw:w.nums=[]):(bU tk sb [] a w).1.1.length≤a.1.length:=by
 have h:=(jC (tk:=tk) (sb:=sb) a.2 ([]++a.1) (aY a.1.length w) (by simp[aY,hw])).1;simp only[bU];refine Nat.le_trans (yH _) ?_;rw[kl6,h];simp[aY,hw]
theorem jX0 (l l':List Int) (s s':Stx) (hl:l.length<10000000) (hs:stn s<10000000) (hn:cK s) (hl':l'.length<10000000) (hs':stn s'<10000000) (hn':cK s') (he:dW ltN (l,s)=dW ltN (l',s')) :
  VC kd5 30 [abW l s,abW l' s'] [] fun r h'=>r = .one (.d (.bool true))∧h'=[]:=by
 have c1:=zf3 l s hl hs hn;have c2:=zf3 l' s' hl' hs' hn';rw[←he]at c2;have b1:=zE9 (tk:=cR (l,s)) (sb:=id) (l,bQ ltN s) w0 rfl;have b2:=zE8 (tk:=cR (l,s)) (sb:=id) (bQ ltN s) ([]++l) (aY l.length w0) (by simp[aY,w0]);rw[zf2]at b2;have b3:(dW ltN (l,s)).1.length≤l.length:=b1;have b4:stn (dW ltN (l,s)).2≤stn s:=b2;generalize dW ltN (l,s)=R at c1 c2 b3 b4;obtain⟨q,t⟩:=R;simp only at c1 c2 b3 b4;have c3:=zB3 q t (by omega) (jO2 t (by omega));obtain⟨s1,s2,s3,s4,s5⟩:=s;obtain⟨t1,t2,t3,t4,t5⟩:=t;obtain⟨u1,u2,u3,u4,u5⟩:=s';simp only[abW,abV,aA,ke5,ke8]at c1 c2 c3 ⊢;refine aS aR zU9 (by simp) ?_;show vwp kd5 0 xM _ [(0,.agg [.d (.sl (nums l)),.d (.sl (s1.map aD)),.d (.sl (s2.map aE)),.d (.sl (ke3 s3)),.d (.sl (ke2 s4)),.d (.sl (ke4 s5))]),(1,.agg [.d (.sl (nums l')),.d (.sl (u1.map aD)),.d (.sl (u2.map aE)),.d (.sl (ke3 u3)),.d (.sl (ke2 u4)),.d (.sl (ke4 u5))])] [];conv in xM=>cbv
 rw[aO];simp -implicitDefEqProofs only[oS.d,J1,J2,J6,↓reduceIte];refine aQ [] c1 rfl rfl rfl rfl ?_;simp -implicitDefEqProofs only[oS.d,J1,J2,J6,↓reduceIte];refine aQ [] c2 rfl rfl rfl rfl ?_;simp -implicitDefEqProofs only[oS.d,J2];refine aQ [] c3 rfl rfl rfl rfl ?_;simp -implicitDefEqProofs only[oS.d,J2];apply aI [];rfl;rfl;exact⟨rfl,rfl⟩
end Go.Vt.Tryz
