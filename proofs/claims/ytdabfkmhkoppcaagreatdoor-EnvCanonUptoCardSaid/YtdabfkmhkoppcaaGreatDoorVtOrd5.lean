import Derived.Test.YtdabfkmhkoppcaaGreatDoorVtOrd4
set_option linter.all false
open Array renaming getD→kx7,getElem?_eq_some_iff→kt0
open Bool renaming and_eq_true→ks2,false_or→kG5,not_true→kB6,or_eq_true→kx0
open List renaming all_eq_true→ku0,any_eq_true→kE5,eq_nil_iff_forall_not_mem→kB8,mem_cons_of_mem→kw6,mem_cons_self→kA3,mem_cons→kt6,mem_of_getElem?→kq0,mem_range→kx6,range→kt4,tail→kL6
namespace Go.Vt
set_option linter.unusedSectionVars false
set_option linter.unusedVariables false
variable [cJ]
variable {P:Program} {ops:List Oper} {ob:Nat→List Nat}
variable {w0:World} {μ0:Pl} {h0:aB} {N:Nat} {df:List Deferred}
inductive BT where
 |leaf
 |ro (i:Nat) (t:BT)
 |alt (j:Nat) (t r:BT)
 |no
def iW (P:Program) (ops:List Oper) (ob:Nat→List Nat):BT→iI→Sl→aB→(Sl→aB→Prop)→Prop
 |.leaf,_,T,h,K=>K T h
 |.no,_,_,_,_=>True
 |.ro i t,W,T,h,K=>match ops[i]? with
  |none=>False
  |some o=>vgo P ops o T h fun T' h'=>iW P ops ob t ((i,fun h2=>vgo P ops o T h2 fun T2 _=>T2=T')::W) T' h' K
 |.alt j t r,W,T,h,K=>(match ops[j]? with
  |none=>False
  |some o=>vgo P ops o T h fun T' h'=>(∀x∈W,x.1∈ob j→x.2 h')∧iW P ops ob t W T' h' K)∧iW P ops ob r W T h K
def rm (U:List Nat) (j:Nat):List Nat:=U.filter fun k=>!(k == j)
theorem pQ {U:List Nat} {j k:Nat}:k∈rm U j↔k∈U∧k≠j:=by simp[rm]
theorem js6 (U:List Nat) (i j:Nat):rm (rm U i) j=rm (rm U j) i:=by
 simp only[rm,List.filter_filter]
 congr 1
 funext k;rw[Bool.and_comm]
theorem js7 {U:List Nat} {j:Nat} (h:j∈U):(rm U j).length<U.length:=by
 induction U with
 |nil=>cases h
 |cons x r ih=>
  by_cases e:x=j
  ·subst e;have:rm (x::r) x=rm r x:=by simp[rm]
   rw[this];have:(rm r x).length≤r.length:=List.length_filter_le _ _;simp;omega
  ·have hx:rm (x::r) j=x::rm r j:=by simp[rm,e]
   rw[hx];rcases kt6.1 h with h|h
   ·exact absurd h.symm e
   ·have:=ih h;simp;omega
def ze1 (ops:List Oper) (i:Nat):Bool:=match ops[i]? with
 |some o=>ro o.op
 |none=>false
def zq7 (ops:List Oper) (i:Nat):Bool:=match ops[i]? with
 |some o=>!ro o.op
 |none=>false
def xQ (j:Nat):BT→Bool
 |.alt k _ r=>k == j||xQ j r
 |_=>false
def okB (P:Program) (ops:List Oper) (ob:Nat→List Nat) (m:List Nat):Bool→List Nat→BT→Bool
 |top,U,.leaf=>top&&U.isEmpty
 |top,_,.no=>!top
 |top,U,.ro i t=>top&&U.contains i&&ze1 ops i&&(rm U i).all (fun j=>(m.getD j 0).testBit i||oU P ops ob i j)&&okB P ops ob m true (rm U i) t
 |top,U,.alt j t r=>(!top||U.all fun k=>xQ k (.alt j t r)||U.any fun k'=>(m.getD k 0).testBit k')&&U.contains j&&zq7 ops j&&okB P ops ob m true (rm U j) t&&okB P ops ob m false U r
def out (j:Nat):BT→Option BT
 |.ro i t=>if i=j then some t else (out j t).map (.ro i)
 |.alt k t r=>if k=j then some t else out j r
 |_=>none
theorem zq8 {m:List Nat} {j:Nat}:∀{t:BT} {top:Bool} {U:List Nat},okB P ops ob m top U t=true→j∈U→(∀k∈U,(m.getD j 0).testBit k=false)→(top=true∨xQ j t=true)→∃t',out j t=some t'∧okB P ops ob m true (rm U j) t'=true
 |.leaf,top,U,ho,hj,_,_=>by
  simp only[okB,ks2,List.isEmpty_iff]at ho;rw[ho.2]at hj;cases hj
 |.no,top,U,ho,_,_,ht=>by
  simp only[okB,Bool.not_eq_true']at ho;rcases ht with ht|ht
  ·rw[ho]at ht;cases ht
  ·cases ht
 |.ro i t,top,U,ho,hj,hb,_=>by
  simp only[okB,ks2,ku0]at ho;obtain⟨⟨⟨⟨h1,h2⟩,h3⟩,h4⟩,h5⟩:=ho;unfold out;by_cases e:i=j
  ·subst e;exact⟨t,by rw[if_pos rfl],h5⟩
  ·rw[if_neg e];obtain⟨t1,o1,o2⟩:=zq8 h5 (pQ.2 ⟨hj,fun h=>e h.symm⟩) (fun k hk=>hb k (pQ.1 hk).1) (.inl rfl);refine⟨.ro i t1,by rw[o1];rfl,?_⟩;simp only[okB,ks2,ku0];refine⟨⟨⟨⟨trivial,?_⟩,h3⟩,fun k hk=>h4 k ?_⟩,?_⟩
   ·have:i∈U:=by simpa using h2
    simpa using pQ.2 ⟨this,e⟩
   ·have h6:=pQ.1 hk;exact pQ.2 ⟨(pQ.1 h6.1).1,h6.2⟩
   ·rw[js6];exact o2
 |.alt k t r,top,U,ho,hj,hb,ht=>by
  simp only[okB,ks2]at ho;obtain⟨⟨⟨⟨h1,h2⟩,h3⟩,h4⟩,h5⟩:=ho;unfold out;by_cases e:k=j
  ·subst e;exact⟨t,by rw[if_pos rfl],h4⟩
  ·rw[if_neg e];refine zq8 h5 hj hb (.inr ?_);have hx:xQ j (.alt k t r)=true:=by
    rcases ht with ht|ht
    ·subst ht;simp only[kB6,kG5]at h1;have:=ku0.1 h1 j hj;rw[kx0]at this;rcases this with h|h
     ·exact h
     ·obtain⟨k',a,b⟩:=kE5.1 h;rw[hb k' a]at b;cases b
    ·exact ht
   simp only[xQ,kx0,beq_iff_eq]at hx;rcases hx with h|h
   ·exact absurd h e
   ·exact h
theorem xR:∀(t:BT) {W W':iI} {T T':Sl} {h:aB} {K:Sl→aB→Prop},iA T T'→WLe W W'→(∀T T' h,iA T T'→K T h→K T' h)→iW P ops ob t W T h K→iW P ops ob t W' T' h K
 |.leaf,_,_,_,_,_,_,hT,_,hK,hv=>hK _ _ _ hT hv
 |.no,_,_,_,_,_,_,_,_,_,_=>trivial
 |.ro i t,W,W',T,T',h,K,hT,hW,hK,hv=>by
  unfold iW at hv ⊢;cases ho:ops[i]? with
  |none=>simp[ho]at hv
  |some o=>
   simp only[ho]at hv ⊢;have ha:gH ops o T T':=gH.all hT;exact sW ha (fun v h' hv'=>xR t (hT.put _ _) (hW.cons fun h2 hp=>vC ha hp) hK hv') hv
 |.alt j t r,W,W',T,T',h,K,hT,hW,hK,hv=>by
  unfold iW at hv ⊢;refine⟨?_,xR r hT hW hK hv.2⟩;have hv:=hv.1;cases ho:ops[j]? with
  |none=>simp[ho]at hv
  |some o=>
   simp only[ho]at hv ⊢;have ha:gH ops o T T':=gH.all hT;refine sW ha (fun v h' hv'=>⟨fun x hx hm=>?_,xR t (hT.put _ _) hW hK hv'.2⟩) hv;obtain⟨y,a,b,c⟩:=hW x hx;exact c _ (hv'.1 y a (by rw[b];exact hm))
def goB (P:Program) (ops:List Oper) (ob:Nat→List Nat) (j:Nat) (t:BT) (W:iI) (T:Sl) (h:aB) (K:Sl→aB→Prop):Prop:=match ops[j]? with
 |none=>False
 |some o=>if ro o.op=true then vgo P ops o T h fun T' h'=>iW P ops ob t ((j,fun h2=>vgo P ops o T h2 fun T2 _=>T2=T')::W) T' h' K
  else vgo P ops o T h fun T' h'=>(∀x∈W,x.1∈ob j→x.2 h')∧iW P ops ob t W T' h' K
theorem js8 {i j:Nat} {t:BT} {W:iI} {T:Sl} {h:aB} {K:Sl→aB→Prop} {x:Oper} (hx:ops[i]?=some x) (hs:oU P ops ob i j=true) (hK:∀T T' h,iA T T'→K T h→K T' h)
  (hv:vgo P ops x T h fun T' h'=>goB P ops ob j t ((i,fun h2=>vgo P ops x T h2 fun T2 _=>T2=T')::W) T' h' K):goB P ops ob j (.ro i t) W T h K:=by
 unfold oU at hs;rw[hx]at hs;split at hs
 ·rename_i x' y hx' hy;cases hx';simp only[ks2,kx0,List.contains_eq_mem,decide_eq_true_eq]at hs;obtain⟨⟨hrx,hap⟩,hs⟩:=hs;obtain⟨a1,a2,a3⟩:=Oper.apart_spec hap;obtain⟨v,hran,hv⟩:=(kW hrx).1 hv;have ay:gH ops y (bI T x.dst v) T:=gH.put a1;have ax:∀u,gH ops x (bI T y.dst u) T:=fun u=>gH.put a3;have wx:∀u h2,(vgo P ops x T h2 fun T2 _=>T2=bI T x.dst v)→vgo P ops x (bI T y.dst u) h2 fun T2 _=>T2=bI (bI T y.dst u) x.dst v:=fun u h2 hp=>vC (ax u).symm hp;unfold goB at hv ⊢;simp only[hy]at hv ⊢;by_cases hry:ro y.op=true
  ·rw[if_pos hry]at hv ⊢;obtain⟨u,hru,hv⟩:=(kW hry).1 hv;refine(kW hry).2 ⟨u,hru.agree ay,?_⟩;rw[iW];simp only[hx];refine(kW hrx).2 ⟨v,hran.agree (ax u).symm,?_⟩;refine xR t (zd6 u v fun t ht=>a2 t ht) ?_ hK hv;intro p hp;rcases kt6.1 hp with rfl|hp
   ·exact⟨_,kw6 _ kA3,rfl,fun h2 hp=>wx u h2 hp⟩
   rcases kt6.1 hp with rfl|hp
   ·exact⟨_,kA3,rfl,fun h2 hp=>vC ay hp⟩
   ·exact⟨p,kw6 _ (kw6 _ hp),rfl,fun _ h=>h⟩
  ·rw[if_neg hry]at hv ⊢;refine sW ay (fun u h2 hv'=>⟨fun p hp hm=>hv'.1 p (kw6 _ hp) hm,?_⟩) hv;have hx2:∃v2,Ran P ops x T h2 v2∧bI T x.dst v2=bI T x.dst v:=by
    rcases hs with(hs|hs)|hs
    ·exact absurd hs hry
    ·exact⟨v,hran.heapless hs,rfl⟩
    ·have:vgo P ops x T h2 fun T2 _=>T2=bI T x.dst v:=hv'.1 _ kA3 hs;exact(kW hrx).1 this
   obtain⟨v2,hx2,e2⟩:=hx2;rw[iW];simp only[hx];refine(kW hrx).2 ⟨v2,hx2.agree (ax u).symm,?_⟩;rw[zq2 (T':=bI T y.dst u) e2];refine xR t (zd6 u v fun t ht=>a2 t ht) ?_ hK hv'.2;exact(WLe.refl W).cons fun h2 hp=>wx u h2 hp
 ·cases hs
theorem zq9 {m:List Nat} {j:Nat} {K:Sl→aB→Prop} (hK:∀T T' h,iA T T'→K T h→K T' h):∀{t t':BT} {top:Bool} {U:List Nat} {W:iI} {T:Sl} {h:aB},okB P ops ob m top U t=true→j∈U→(∀k∈U,(m.getD j 0).testBit k=false)→out j t=some t'→
  iW P ops ob t W T h K→goB P ops ob j t' W T h K
 |.leaf,_,_,_,_,_,_,_,_,_,ho,_=>by cases ho
 |.no,_,_,_,_,_,_,_,_,_,ho,_=>by cases ho
 |.ro i t,t',top,U,W,T,h,hok,hj,hb,ho,hv=>by
  simp only[okB,ks2,ku0]at hok;obtain⟨⟨⟨⟨h1,h2⟩,h3⟩,h4⟩,h5⟩:=hok;unfold out at ho;unfold iW at hv;cases hx:ops[i]? with
  |none=>simp[hx]at hv
  |some x=>
   simp only[hx]at hv;have hrx:ro x.op=true:=by simpa[ze1,hx]using h3
   by_cases e:i=j
   ·subst e;rw[if_pos rfl]at ho;cases ho;unfold goB;simp only[hx,if_pos hrx];exact hv
   ·rw[if_neg e]at ho;cases ho1:out j t with
    |none=>rw[ho1]at ho;cases ho
    |some t1=>
     rw[ho1]at ho;cases ho;have hj':j∈rm U i:=pQ.2 ⟨hj,fun h=>e h.symm⟩;have hsw:oU P ops ob i j=true:=by
      have h6:=h4 j hj';rw[kx0]at h6;rcases h6 with h6|h6
      ·have hi:i∈U:=by simpa using h2
       rw[hb i hi]at h6;cases h6
      ·exact h6
     exact js8 hx hsw hK (oT hv fun T' h' hv'=>zq9 hK h5 hj' (fun k hk=>hb k (pQ.1 hk).1) ho1 hv')
 |.alt k t r,t',top,U,W,T,h,hok,hj,hb,ho,hv=>by
  simp only[okB,ks2]at hok;obtain⟨⟨⟨⟨h1,h2⟩,h3⟩,h4⟩,h5⟩:=hok;unfold out at ho;unfold iW at hv;by_cases e:k=j
  ·subst e;rw[if_pos rfl]at ho;cases ho;have hv:=hv.1;unfold goB;cases hx:ops[k]? with
   |none=>simp[hx]at hv
   |some x=>
    simp only[hx]at hv ⊢;have hrx:¬ro x.op=true:=by
     have:(!ro x.op)=true:=by simpa[zq7,hx]using h3
     intro h;rw[h]at this;cases this
    rw[if_neg hrx];exact hv
  ·rw[if_neg e]at ho;exact zq9 hK h5 hj hb ho hv.2
theorem js9 {r:Option Nat} {n:Nat} {K:Sl→aB→Prop} {Q:Exit→Act→World→Prop} {m:List Nat} (hK:∀T T' h,iA T T'→K T h→K T' h) (hk:∀T' h' a' w',K T' h'→St w0 μ0 h0 N df T' h' a' w'→Q .normal a' w')
  (hd:∀o∈ops,∀d,o.dst=some d→d<N) (hdown:vE ops=true) (hshown:sZ ops m=true) :
  ∀(fuel:Nat) {listed:Array Bool} {t:BT} {U:List Nat} {W:iI} {T:Sl} {h:aB} {a:Act} {w:World},listed.size=ops.length→(∀i,i∈U↔i<ops.length∧listed.getD i true=false)→
  (∀j k,j<ops.length→listed.getD j true=true→(m.getD j 0).testBit k=true→k<ops.length→listed.getD k true=true)→U.length≤fuel→okB P ops ob m true U t=true→
  iW P ops ob t W T h K→St w0 μ0 h0 N df T h a w→wpAnyIn (FW r) n P .any ops.toArray Q fuel listed a w:=by
 have done:∀{listed:Array Bool} {σ:List Nat},(∀i,i∈σ↔i<ops.length∧listed.getD i true=false)→Region.ready .any ops.toArray listed=[]→listed.size=ops.length→σ=[]:=by
  intro listed σ hσ hr hsz;have hall:∀i,i<ops.length→listed.getD i true=true:=by
   intro i;induction i using Nat.strongRecOn with
   |_ i ih=>
    intro hi;cases hx:listed.getD i true with
    |true=>rfl
    |false=>
     exfalso;have:i∈Region.ready .any ops.toArray listed:=by
      rw[mem_ready];refine⟨hx,ops[i]'hi,by simp[hi],fun e he hb=>?_⟩;have hlt:e.on<i:=by
       have h1:=ku0.1 hdown i (kx6.2 hi);rw[List.getElem?_eq_getElem hi]at h1;have h2:=ku0.1 h1 e (by simpa using he);simp[hb]at h2;exact h2
      have hlt2:e.on<listed.size:=by omega
      have:=ih e.on hlt (by omega);simpa[kx7,hlt2]using this
     rw[hr]at this;cases this
  rw[kB8];intro i hi;have h1:=(hσ i).1 hi;rw[hall i h1.1]at h1;cases h1.2
 have fin:∀{t:BT} {W:iI} {T:Sl} {h:aB},okB P ops ob m true [] t=true→iW P ops ob t W T h K→K T h:=by
  intro t W T h ho hv;cases t with
  |leaf=>exact hv
  |no=>cases ho
  |ro i t=>simp[okB]at ho
  |alt j t r=>simp[okB]at ho
 intro fuel;induction fuel with
 |zero=>
  intro listed t U W T h a w hsz hU hcl hlen hok hv s;have h0:U=[]:=List.eq_nil_of_length_eq_zero (by omega);subst h0;refine⟨?_,hk _ _ _ _ (fin hok hv) s⟩;rw[kB8];intro i hi;obtain⟨h1,o,ho,_⟩:=mem_ready.1 hi;have hlt:i<ops.length:=by
   have:=(kt0.1 ho).1;simpa using this
  exact absurd ((hU i).2 ⟨hlt,h1⟩) (by simp)
 |succ fuel ih=>
  intro listed t U W T h a w hsz hU hcl hlen hok hv s;refine⟨fun hr=>?_,fun j hj=>?_⟩
  ·have h0:=done hU hr hsz;subst h0;exact hk _ _ _ _ (fin hok hv) s
  ·obtain⟨h1,o,ho,hall⟩:=mem_ready.1 hj;have hlt:j<ops.length:=by
    have:=(kt0.1 ho).1;simpa using this
   have hol:ops[j]?=some o:=by simpa using ho
   have hjU:j∈U:=(hU j).2 ⟨hlt,h1⟩;have hbef:∀k,(m.getD j 0).testBit k=true→k<ops.length→listed.getD k true=true:=by
    intro k hkb hkl;have h2:=ku0.1 (ku0.1 hshown j (kx6.2 hlt)) k (kx6.2 hkl);rw[hkb,hol]at h2;simp only[kB6,kG5,kE5,ks2,kx0,beq_iff_eq]at h2;obtain⟨e,he,hb,hek⟩:=h2;have hle:=hall e (by simpa using he) hb;have hlt2:e.on<listed.size:=by
     rcases Nat.lt_or_ge e.on listed.size with h|h
     ·exact h
     ·simp[kx7,Nat.not_lt.2 h]at hle
    have hle':listed.getD e.on true=true:=by simpa[kx7,hlt2]using hle
    rcases hek with rfl|hek
    ·exact hle'
    ·exact hcl e.on k (by omega) hle' hek hkl
   have hfree:∀k∈U,(m.getD j 0).testBit k=false:=by
    intro k hk;cases hb:(m.getD j 0).testBit k with
    |false=>rfl
    |true=>
     have h2:=(hU k).1 hk;have h3:=hbef k hb h2.1;rw[h2.2]at h3;cases h3
   obtain⟨t',o1,o2⟩:=zq8 hok hjU hfree (.inl rfl);have hgo:=zq9 hK hok hjU hfree o1 hv;have hsz':(listed.setIfInBounds j true).size=ops.length:=by simpa using hsz
   have hg:∀i,(listed.setIfInBounds j true).getD i true=if i=j then true else listed.getD i true:=by
    intro i;split
    ·rename_i e;subst e;simp[kx7,show i<listed.size by omega]
    ·rename_i e;exact getD_set_ne true (fun h=>e h.symm)
   have hU':∀i,i∈rm U j↔i<ops.length∧(listed.setIfInBounds j true).getD i true=false:=by
    intro i;rw[hg,pQ,hU i];constructor
    ·rintro⟨⟨h2,h3⟩,h4⟩;exact⟨h2,by rw[if_neg h4];exact h3⟩
    ·rintro⟨h2,h3⟩;split at h3
     ·cases h3
     ·rename_i e;exact⟨⟨h2,h3⟩,e⟩
   have hcl':∀j' k,j'<ops.length→(listed.setIfInBounds j true).getD j' true=true→(m.getD j' 0).testBit k=true→k<ops.length→(listed.setIfInBounds j true).getD k true=true:=by
    intro j' k hj' hl' hb hkl;rw[hg]at hl' ⊢;split
    ·rfl
    ·by_cases e:j'=j
     ·subst e;exact hbef k hb hkl
     ·rw[if_neg e]at hl';exact hcl j' k hj' hl' hb hkl
   have hlen':(rm U j).length≤fuel:=by have:=js7 hjU;omega
   unfold goB at hgo;simp only[hol]at hgo;unfold wpOpIn;rw[ho];split at hgo
   ·exact nW s (hd o (kq0 hol)) hgo fun T' h' a' w' hv'' s'=>ih hsz' hU' hcl' hlen' o2 hv'' s'
   ·exact nW s (hd o (kq0 hol)) hgo fun T' h' a' w' hv'' s'=>ih hsz' hU' hcl' hlen' o2 hv''.2 s'
def vF (P:Program) (ops:List Oper) (ob:Nat→List Nat) (t:BT):Bool:=
 vE ops&&sZ ops (Region.before ops.toArray).toList&&okB P ops ob (Region.before ops.toArray).toList true (kt4 ops.length) t
theorem zV7 {r:Option Nat} {n id:Nat} {K:Sl→aB→Prop} {Q:Exit→Act→World→Prop} {t:BT} (hm:P.follows .mixedOrders=true) (hok:vF P ops ob t=true) (hdok:dOk N ops=true)
  (hK:∀T T' h,iA T T'→K T h→K T' h) (hk:∀T' h' a' w',K T' h'→St w0 μ0 h0 N df T' h' a' w'→Q .normal a' w') {T:Sl} {h:aB} {a:Act} {w:World} (s:St w0 μ0 h0 N df T h a w)
  (hv:iW P ops ob t [] T h K):(Code.region id ops.toArray true).wpIn (FW r) n P Q a w:=by
 simp only[vF,ks2]at hok;obtain⟨⟨h4,h5⟩,h6⟩:=hok;refine wpIn_region_any hm (js9 (t:=t) (U:=kt4 ops.length) hK hk (fun o ho=>vD hdok ho) h4 h5 _ (by simp) ?_ ?_ (by simp) h6 hv s.drawn)
 ·intro i;constructor
  ·intro hi;have:i<ops.length:=by simpa using hi
   exact⟨this,by simp[kx7,this]⟩
  ·rintro⟨hi,_⟩;simpa using hi
 ·intro j k hj hl hb hkl;simp[kx7,hj]at hl
def tB (ops:List Oper):Nat→List (List Nat)→BT
 |0,_=>.no
 |_+1,[]=>.no
 |_+1,[]::_=>.leaf
 |f+1,(i::r)::L=>if ze1 ops i=true then .ro i (tB ops f (r::L.map kL6))
  else .alt i (tB ops f (r::(L.filter fun x=>x.head? == some i).map kL6)) (tB ops f (L.filter fun x=>!(x.head? == some i)))
end Go.Vt
