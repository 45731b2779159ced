import Derived.Test.YtdabfkmhkoppcaaGreatDoorVtRng
set_option linter.all false
open Array renaming getD_eq_getD_getElem?→kx1,getElem?_append_left→kw2,getElem?_eq_some_iff→kt0,replicate→kA1,size_setIfInBounds→kG1
open Bool renaming and_eq_true→ks2
open List renaming all_eq_true→ku0,getElem?_eq_some_iff→kp9,lookup_cons→kx3,mem_cons→kt6,pairwise_cons→kz2
namespace Go.Vt
set_option linter.unusedSectionVars false
set_option linter.unusedVariables false
variable [cJ]
variable {P:Program}
theorem zW7:∀{caps:List L} {k i:Nat} {v:V},(vH k caps).lookup i=some v→k≤i∧∃l,caps[i-k]?=some l∧v = .one l
 |[],_,_,_,h=>by cases h
 |u::r,k,i,v,h=>by
  unfold vH at h;rw[kx3]at h;split at h
  ·rename_i e;have:i=k:=by simpa using e
   subst this;cases h;exact⟨Nat.le_refl _,u,by simp,rfl⟩
  ·rename_i e;have hne:i≠k:=by simpa using e
   obtain⟨h1,l,h2,h3⟩:=zW7 h;refine⟨by omega,l,?_,h3⟩;rw[show i-k=(i-(k+1))+1 by omega];simpa using h2
theorem dP.zip {w:World} {μ:Pl} {h:aB}:∀{ps:List Tmp} {vs:List V} {args:List Value} {T:Sl} {tmps:Array Value},vs.length=ps.length→vs.length=args.length→
  (∀(j:Nat) (v:V) (x:Value),vs[j]?=some v→args[j]?=some x→aZ w μ h v x)→(∀p∈ps,p<tmps.size)→dP w μ h T { tmps,defers:=[] }→
  dP w μ h (mG ps vs T) { tmps:=(ps.zip args).foldl (fun t (p,v)=>t.setIfInBounds p v) tmps,defers:=[] }∧((ps.zip args).foldl (fun t (p,v)=>t.setIfInBounds p v) tmps).size=tmps.size
 |[],vs,args,T,tmps,h1,h2,hr,hp,s=>by
  have:vs=[]:=List.eq_nil_of_length_eq_zero (by simpa using h1);subst this;exact⟨s,rfl⟩
 |p::ps,v::vs,x::args,T,tmps,h1,h2,hr,hp,s=>by
  have s1:dP w μ h ((p,v)::T) { tmps:=tmps.setIfInBounds p x,defers:=[] }:=
   dP.put (d:=some p) (v:=v) s (hr 0 v x rfl rfl) (fun t ht=>by cases ht;exact hp p (by simp))
  obtain⟨a,b⟩:=dP.zip (ps:=ps) (vs:=vs) (args:=args) (T:=(p,v)::T) (tmps:=tmps.setIfInBounds p x) (by simpa using h1) (by simpa using h2)
   (fun j v x hj hx=>hr (j+1) v x (by simpa using hj) (by simpa using hx)) (fun q hq=>by rw[kG1];exact hp q (by simp[hq])) s1
  exact⟨a,b.trans (kG1 ..)⟩
 |_::_,[],_,_,_,h1,_,_,_,_=>by simp at h1
 |_::_,_::_,[],_,_,_,h2,_,_,_=>by simp at h2
def vM (w0:World) (df:List Deferred):Prop:=(∀d∈df,∃D,d.target = .collected D∧w0.heap.size≤D)∧df.Pairwise fun a b=>a.target≠b.target
variable {w0:World} {μ0:Pl} {h0:aB} {N:Nat}
theorem nC {r:Loop}:∀cs T fr,Obj.loop r≠.cells cs T fr:=fun _ _ _ h=>by cases h
theorem xY {o:Option (List Deferred)}:∀cs T fr,Obj.deferred o≠.cells cs T fr:=fun _ _ _ h=>by cases h
theorem pO.turn {df:List Deferred} {w:World} {l:Nat} {r:Loop} {o':Obj} (hl:w.heap[l]?=some (.loop r)) (m:pO df w):pO df (w.putObj l o'):=fun d hd D hD=>by
 rw[nY w l o' D (fun e=>by subst e;have:=m d hd D hD;rw[hl]at this;cases this)];exact m d hd D hD
theorem jt7 (hm:P.follows .mixedOrders=true) {sg:cO} {fn0:FuncId} {ps:Array Tmp} {x y:Code} {w:World} {μ:Pl} {h:aB} {T:Sl} {a:Act} (S:dP w μ h T a) (hN:a.tmps.size=N)
  (hx:eG P N sg x=true) (hy:eG P N sg y=true) (hp:∀p∈ps,p<N) :
  zr5 P w μ h w.heap.size (w.heap.size+1) (jG fn0 a.tmps ps x y w.heap.size)
   (fun vs h1 K'=>vs.length=ps.toList.length∧vwp P h1.length (aN sg x) (vG (fun T' h'=>vwp P h'.length (aN sg y) (zW1 K') T' h') (fun _ _ _=>False)) (mG ps.toList vs T) h1):=by
 rintro vs args h1 w1 μ1 K' H1 G1 hlen hreps hrec hD ⟨hl,hv⟩;refine⟨fn0,_,x,y,run_yield hrec (by show args.size=ps.size;rw[←hlen,hl];simp),roundIn_of_wpIn trivial ?_⟩;have hfold:((jG fn0 a.tmps ps x y w.heap.size none).params.zip args).foldl (fun tmps (t,a)=>tmps.setIfInBounds t a) (jG fn0 a.tmps ps x y w.heap.size none).tmps=(ps.toList.zip args.toList).foldl (fun t (p,v)=>t.setIfInBounds p v) a.tmps:=by
  show(ps.zip args).foldl (fun tmps (t,a)=>tmps.setIfInBounds t a) a.tmps=_;rw[←Array.foldl_toList,Array.toList_zip]
 rw[hfold];have S1:dP w1 μ1 h1 T { tmps:=a.tmps,defers:=[] }:=fun i v hi=>(S i v hi).good G1;obtain⟨z1,z2⟩:=dP.zip (ps:=ps.toList) (vs:=vs) (args:=args.toList) (T:=T) (tmps:=a.tmps) hl (by simpa using hlen) (fun j v x hj hx=>hreps j v x hj (by simpa using hx)) (fun p hp'=>by rw[hN];exact hp p (by simpa using hp')) S1;have sx:St w1 μ1 h1 N [] (mG ps.toList vs T) h1 { tmps:=(ps.toList.zip args.toList).foldl (fun t (p,v)=>t.setIfInBounds p v) a.tmps,defers:=[] } w1:=
  ⟨μ1,H1,kn9 _ _ _,z1,z2.trans hN,rfl,fun _ h=>by cases h⟩
 show x.wpIn (FW (some (w.heap.size+1))) 0 P _ _ w1;refine vK (r:=some (w.heap.size+1)) hm x hx ?_ sx hv;intro e T2 h2 a2 w2 hk2 s2;cases e with
 |exit id=>exact hk2.elim
 |ret=>exact hk2.elim
 |normal=>
  obtain⟨μ2,H2,G2,S2,hN2,hdf2,_⟩:=s2;have hrec2:=G2.still H1 hrec nC;have hD2:=G2.still H1 hD xY;refine⟨_,run_beginRound hrec2 rfl,?_⟩;have hne:w.heap.size≠w.heap.size+1:=by omega
  generalize hw3:w2.putObj (w.heap.size+1) (.loop { jG fn0 a.tmps ps x y w.heap.size none with state:=.busy })=w3;have hlt2:w.heap.size+1<w2.heap.size:=(kt0.1 hrec2).1;have H3:aR w3 μ2 h2:=by rw[←hw3];exact H2.turn hrec2 nC
  have hrec3:w3.heap[w.heap.size+1]?=some (.loop { jG fn0 a.tmps ps x y w.heap.size none with state:=.busy }):=by rw[←hw3];exact World.putObj_heap_same hlt2
  have hD3:w3.heap[w.heap.size]?=some (.deferred (some [])):=by rw[←hw3,nY _ _ _ _ hne];exact hD2
  have G3:Good w μ h w3 μ2 h2:=by rw[←hw3];exact(G1.trans G2).turn hrec2 nC (by omega)
  have sy:St w3 μ2 h2 N [] T2 h2 a2 w3:=⟨μ2,H3,kn9 _ _ _,fun i v hi=>by rw[←hw3];exact(S2 i v hi).turn hrec2 nC,hN2,hdf2,fun _ h=>by cases h⟩;show y.wpIn (FW (some (w.heap.size+1))) 0 P _ _ w3;refine vK (r:=some (w.heap.size+1)) hm y hy ?_ sy hk2;intro e T4 h4 a4 w4 hk4 s4;obtain⟨μ4,H4,G4,S4,_⟩:=s4;have hrec4:=G4.still H3 hrec3 nC;have hD4:=G4.still H3 hD3 xY;have hlt4:w.heap.size+1<w4.heap.size:=(kt0.1 hrec4).1;have key:∀(jump:Option Code) (pd:Option VX),jG fn0 a.tmps ps x y w.heap.size pd={ jG fn0 a.tmps ps x y w.heap.size none with state:=(if jump.isNone then .ready else .done),pending:=jump }→pd.isNone=jump.isNone→K' pd h4→
    ∃v w',(Instr.endRound (w.heap.size+1) jump).run P w4 = .ok v w'∧(∃pd' h' μ',Ending.returned v = .returned (.bool pd'.isNone)∧K' pd' h'∧aR w' μ' h'∧Good w μ h w' μ' h'∧(∀v x,aZ w1 μ1 h1 v x→aZ w' μ' h' v x)∧
    w'.heap[w.heap.size+1]?=some (.loop (jG fn0 a.tmps ps x y w.heap.size pd'))∧w'.heap[w.heap.size]?=some (.deferred (some []))):=by
   intro jump pd hr hn hK;refine⟨_,_,run_endRound jump hrec4,pd,h4,μ4,by rw[hn],hK,H4.turn hrec4 nC,(G3.trans G4).turn hrec4 nC (by omega),fun v z hz=>?_,?_,?_⟩
   ·have z2:=(hz.good G2).turn (o':=.loop { jG fn0 a.tmps ps x y w.heap.size none with state:=.busy }) hrec2 nC;rw[hw3]at z2;exact(z2.good G4).turn hrec4 nC
   ·rw[hr];exact World.putObj_heap_same hlt4
   ·rw[nY _ _ _ _ hne];exact hD4
  cases e with
  |normal=>exact key none none rfl rfl hk4
  |exit id=>exact key (some (.exit id)) (some (.exit id)) rfl rfl hk4
  |ret=>exact key (some .ret) (some .ret) rfl rfl hk4
theorem jt8 (hm:P.follows .mixedOrders=true) {sg:cO} {g:Operand} {ps:Array Tmp} {x y:Code} {K:VX→Sl→aB→Prop} {Q:Exit→Act→World→Prop} {T:Sl} {h:aB} {df:List Deferred} {a:Act} {w:World}
  (hx:eG P N sg x=true) (hy:eG P N sg y=true) (hp:∀p∈ps,p<N) (hdm:vM w0 df)
  (hk:∀e T' h' a' w' df',vM w0 df'→K e T' h'→St w0 μ0 h0 N df' T' h' a' w'→Q e.toExit a' w') (s:St w0 μ0 h0 N df T h a w)
  (hv:vwp P h0.length (.rangeF g ps.toList (aN sg x) (aN sg y)) K T h):(Code.rangeFunc g ps x y).wpIn (FW none) 0 P Q a w:=by
 obtain⟨μ,H,G,S,hN,hdf,hmk⟩:=s;obtain⟨f,caps,Nit,it,hg,hcap,⟨fn,c,hf,hb,hcal,rfl,hokc,rfl,hres⟩,hlt,hv⟩:=hv;have hrep:=bR S hg;obtain⟨cs,hev,hcl,hcr⟩:∃cs:Array Value,a.eval g = .func (.func f) #[] cs∧caps.length=cs.size∧∀(j:Nat) (l:L) (v:Value),caps[j]?=some l→cs[j]?=some v→aY w μ h l v:=by
  revert hrep
  generalize a.eval g=fv;intro hrep;cases hrep with
  |one _ hl=>cases hl with|@fn _ _ cs hcl hcr=>exact⟨cs,rfl,hcl,hcr⟩
 refine wpIn_rangeFunc fun fn0 _=>?_;have gl:=(Good.lay w μ h (.deferred (some []))).trans (Good.lay (w.alloc (.deferred (some []))) μ h (.loop (jG fn0 a.tmps ps x y w.heap.size none)));have hl1:((w.alloc (.deferred (some []))).alloc (.loop (jG fn0 a.tmps ps x y w.heap.size none))).heap[w.heap.size+1]?=some (.loop (jG fn0 a.tmps ps x y w.heap.size none)):=by
  have:=World.alloc_heap_new (w.alloc (.deferred (some []))) (.loop (jG fn0 a.tmps ps x y w.heap.size none));rwa [World.size_alloc]at this
 have hD1:((w.alloc (.deferred (some []))).alloc (.loop (jG fn0 a.tmps ps x y w.heap.size none))).heap[w.heap.size]?=some (.deferred (some [])):=
  (Go.RowKit.Below.heap_alloc _ _ _ (by simp)).trans (World.alloc_heap_new w _)
 have H1:aR ((w.alloc (.deferred (some []))).alloc (.loop (jG fn0 a.tmps ps x y w.heap.size none))) μ h:=(H.lay _).lay _;generalize hw1:(w.alloc (.deferred (some []))).alloc (.loop (jG fn0 a.tmps ps x y w.heap.size none))=w1 at gl hl1 hD1 H1;refine⟨w.heap.size+1,[{ target:=.collected w.heap.size,args:=#[] }],w1,{ target:=.fn (.func f) cs,args:=#[.func (.yield (w.heap.size+1)) #[] #[]] },w1,f,
  #[.func (.yield (w.heap.size+1)) #[] #[]]++cs,w1,?_,?_,fun _ _=>trivial,?_,fun hx=>by simp[FW,Fence.wide]at hx,?_⟩
 ·rw[←hw1];exact run_enterLoop_outer _ _ _ _ _
 ·simp only[resolve,hev];simp[go_sem]
 ·simp only[invoke];rw[zd3 hcal]
 ·refine callsIn_of_wp hf hb trivial ?_;have hsize:(#[Value.func (.yield (w.heap.size+1)) #[] #[]]++cs).size=caps.length+1:=by simp[hcl];omega
  have s1:StY w μ h fn.ntmps w.heap.size (w.heap.size+1) (jG fn0 a.tmps ps x y w.heap.size) ((0,.one .any)::vH 1 caps) [0] h none
    { tmps:=(#[Value.func (.yield (w.heap.size+1)) #[] #[]]++cs)++kA1 (fn.ntmps-(#[Value.func (.yield (w.heap.size+1)) #[] #[]]++cs).size) undef,defers:=[] } w1:=by
   refine⟨⟨μ,H1,gl,fun i v hi=>?_,by rw[Array.size_append,Array.size_replicate,hsize];omega,rfl,fun _ h=>by cases h⟩,hl1,hD1,fun i hi=>?_⟩
   ·rw[kx3]at hi;split at hi
    ·cases hi;exact .top
    ·obtain⟨k1,l,k2,rfl⟩:=zW7 hi;have hlt':i-1<cs.size:=by rw[←hcl];exact(kp9.1 k2).1
     have hget:(#[Value.func (.yield (w.heap.size+1)) #[] #[]]++cs++kA1 (fn.ntmps-(#[Value.func (.yield (w.heap.size+1)) #[] #[]]++cs).size) undef).getD i undef=cs[i-1]:=by
      rw[kx1,kw2 (by simp;omega),Array.getElem?_append_right (by simp;omega)];simp[hlt']
     rw[hget];exact(zd4 (hcr _ _ _ k2 (Array.getElem?_eq_getElem hlt')) (ku0.1 hcap l (List.mem_of_getElem? k2))).good gl
   ·have:i=0:=by simpa using hi
    subst this;rw[kw2 (by simp;omega),kw2 (by simp)];rfl
  refine jt6 (jt7 hm S hN hx hy hp) c hokc ?_ s1 hv;intro e T' ys' h' pd' a' w' hke ⟨⟨μ',H',G',S',_,hdf',_⟩,hrec',hD',_⟩;have fin:(match pd' with|none=>K .normal T h'|some e=>K e T h')→a'.defers=[]∧∃v,(results fn a'.tmps).run P w' = .ok v w'∧
    rangePost (FW none) 0 P (w.heap.size+1) Q { a with defers:=[{ target:=.collected w.heap.size,args:=#[] }]++a.defers } (.returned v) w':=by
   intro hK;obtain⟨v,hv',_⟩:=ze3 (P:=P) (fn:=fn) (vs:=[]) H' S' (by rw[hres];rfl);refine⟨hdf',v,hv',_,_,run_endLoop hrec' (by cases pd'<;>simp[jG]),?_⟩;have hlt':w.heap.size+1<w'.heap.size:=(kt0.1 hrec').1;have hsz:∀d∈df,∀D,d.target = .collected D→D<w.heap.size:=fun d hd D hD=>(kt0.1 (hmk d hd D hD)).1;have hom:vM w0 ({ target:=.collected w.heap.size,args:=#[] }::df):=by
    refine⟨fun d hd=>?_,kz2.2 ⟨fun d hd e=>?_,hdm.2⟩⟩
    ·rcases kt6.1 hd with rfl|hd
     ·exact⟨_,rfl,G.size⟩
     ·exact hdm.1 d hd
    ·obtain⟨D,hD,_⟩:=hdm.1 d hd;have:=hsz d hd D hD;simp only at e;rw[hD]at e;cases e;omega
   have sfin:St w0 μ0 h0 N ({ target:=.collected w.heap.size,args:=#[] }::df) T h' { a with defers:=[{ target:=.collected w.heap.size,args:=#[] }]++a.defers } (w'.putObj (w.heap.size+1) (.loop { jG fn0 a.tmps ps x y w.heap.size pd' with state:=.exhausted })):=by
    refine⟨μ',H'.turn hrec' nC,(G.trans G').turn hrec' nC (by have:=G.size;omega),fun i v hi=>((S i v hi).good G').turn hrec' nC,hN,by simp[hdf],fun d hd D hD=>?_⟩;rcases kt6.1 hd with rfl|hd
    ·cases hD;rw[nY _ _ _ _ (by omega)];exact hD'
    ·exact(pO.turn hrec' (hmk.good H G')) d hd D hD
   cases pd' with
   |none=>exact hk .normal _ _ _ _ _ hom hK sfin
   |some e=>
    cases e with
    |normal=>exact hk .normal _ _ _ _ _ hom hK sfin
    |exit id=>exact wpIn_exit (hk (.exit id) _ _ _ _ _ hom hK sfin)
    |ret=>exact wpIn_ret (hk .ret _ _ _ _ _ hom hK sfin)
  cases e with
  |exit id=>exact hke.elim
  |normal=>exact fin (by cases pd'<;>exact hke)
  |ret=>exact fin (by cases pd'<;>exact hke)
set_option linter.unusedSectionVars false
set_option linter.unusedVariables false
variable [cJ]
variable {P:Program} {w0:World} {μ0:Pl} {h0:aB} {N:Nat}
def kD (P:Program) (N:Nat) (sg:cO):Code→Bool
 |.seq a b=>kD P N sg a&&kD P N sg b
 |.cond _ x y=>kD P N sg x&&kD P N sg y
 |.block _ c=>kD P N sg c
 |.rangeFunc _ ps x y=>eG P N sg x&&eG P N sg y&&ps.toList.all (fun p=>decide (p<N))
 |.skip=>true
 |.region id ops draw=>eG P N sg (.region id ops draw)
 |.loop c=>eG P N sg (.loop c)
 |.exit _=>true
 |.ret=>true
 |_=>true
theorem jt9 {sg:cO} (hm:P.follows .mixedOrders=true):∀(c:Code) {K:VX→Sl→aB→Prop} {Q:Exit→Act→World→Prop} {T:Sl} {h:aB} {df:List Deferred} {a:Act} {w:World},kD P N sg c=true→vM w0 df→
  (∀e T' h' a' w' df',vM w0 df'→K e T' h'→St w0 μ0 h0 N df' T' h' a' w'→Q e.toExit a' w')→St w0 μ0 h0 N df T h a w→vwp P h0.length (aN sg c) K T h→c.wpIn (FW none) 0 P Q a w:=by
 intro c;induction c with
 |skip=>intro K Q T h df a w _ hd hk s hv;exact wpIn_skip (hk .normal _ _ _ _ _ hd hv s)
 |region id ops draw=>intro K Q T h df a w hok hd hk s hv;exact zW4 hm hok s (fun _ _ _ _ hv s=>hk .normal _ _ _ _ _ hd hv s) hv
 |seq x y ihx ihy=>
  intro K Q T h df a w hok hd hk s hv;simp only[kD,ks2]at hok;refine wpIn_seq (ihx hok.1 hd ?_ s hv);intro e T' h' a' w' df' hd' hv' s';cases e with
  |normal=>exact ihy hok.2 hd' hk s' hv'
  |exit id=>exact hk (.exit id) _ _ _ _ _ hd' hv' s'
  |ret=>exact hk .ret _ _ _ _ _ hd' hv' s'
 |cond o x y ihx ihy=>
  intro K Q T h df a w hok hd hk s hv;simp only[kD,ks2]at hok;have hv:iX (opd T o) (vwp P h0.length (aN sg x) K T h) (vwp P h0.length (aN sg y) K T h):=hv;unfold iX at hv;split at hv
  ·rename_i t ht;have s0:=s;obtain⟨μ,H,G,S,hN,hdf⟩:=s0;have hr:=bR S ht;have he:a.eval o = .bool t:=by
    revert hr
    generalize a.eval o=x;intro hr;cases hr with
    |one _ hl=>cases hl with|d hd=>cases hd;rfl
   refine wpIn_cond he ?_;cases t with
   |true=>exact ihx hok.1 hd hk s (hv.1 rfl)
   |false=>exact ihy hok.2 hd hk s (hv.2 rfl)
  ·exact hv.elim
 |block id c ih=>
  intro K Q T h df a w hok hd hk s hv;refine wpIn_block (ih hok hd ?_ s hv);intro e T' h' a' w' df' hd' hv' s';cases e with
  |normal=>exact hk .normal _ _ _ _ _ hd' hv' s'
  |exit id'=>
   show(if id'=id then Q .normal a' w' else Q (.exit id') a' w');have hv':if id'=id then K .normal T' h' else K (.exit id') T' h':=hv'
   split
   ·rename_i e;rw[if_pos e]at hv';exact hk .normal _ _ _ _ _ hd' hv' s'
   ·rename_i e;rw[if_neg e]at hv';exact hk (.exit id') _ _ _ _ _ hd' hv' s'
  |ret=>exact hk .ret _ _ _ _ _ hd' hv' s'
 |loop c=>
  intro K Q T h df a w hok hd hk s hv;exact vK (r:=none) hm (.loop c) hok (fun e T' h' a' w' hv' s'=>hk e _ _ _ _ _ hd hv' s') s hv
 |rangeFunc g ps x y=>
  intro K Q T h df a w hok hd hk s hv;simp only[kD,ks2,ku0,decide_eq_true_eq]at hok;exact jt8 hm hok.1.1 hok.1.2 (fun p hp=>hok.2 p (by simpa using hp)) hd hk s hv
 |exit id=>intro K Q T h df a w _ hd hk s hv;exact wpIn_exit (hk (.exit id) _ _ _ _ _ hd hv s)
 |ret=>intro K Q T h df a w _ hd hk s hv;exact wpIn_ret (hk .ret _ _ _ _ _ hd hv s)
 |scope=>intro K Q T h df a w _ _ _ _ hv;exact hv.elim
 |label=>intro K Q T h df a w _ _ _ _ hv;exact hv.elim
 |goto=>intro K Q T h df a w _ _ _ _ hv;exact hv.elim
 |refuse=>intro K Q T h df a w _ _ _ _ hv;exact hv.elim
theorem ju0 {f:FuncId} {fn:Func} {c:Code} {sg:cO} {avs:List V} {hs:aB} {Post:V→aB→Prop} (hm:P.follows .mixedOrders=true) (hf:P.funcs[f]?=some fn) (hb:fn.body=some c) (hcal:jM P f=true)
  (hok:kD P fn.ntmps sg c=true) (hlen:avs.length≤fn.ntmps) (hv:vwp P hs.length (aN sg c) (oW P hs.length fn.results.toList Post) (prm 0 avs) hs):VC P f avs hs Post:=by
 refine⟨hcal,fun w μ args H hl ha=>callsIn_of_wp_marks hf hb trivial ?_⟩;have hs0:St w μ hs fn.ntmps [] (prm 0 avs) hs { tmps:=args++kA1 (fn.ntmps-args.size) undef,defers:=[] } w:=by
  refine⟨μ,H,kn9 _ _ _,fun i v hi=>?_,by simp;omega,rfl,fun _ h=>by cases h⟩;obtain⟨_,hi⟩:=ze4 hi;simp only[Nat.sub_zero]at hi;have hlt:i<args.size:=by rw[←hl];exact(kp9.1 hi).1
  have:(args++kA1 (fn.ntmps-args.size) undef).getD i undef=args[i]:=by
   simp[kx1,kw2 hlt,hlt]
  rw[this];exact ha i v _ hi (by simp[hlt])
 refine jt9 hm c hok ⟨fun _ h=>(by cases h),List.Pairwise.nil⟩ ?_ hs0 hv;have fin:∀(df:List Deferred) (T':Sl) (h':aB) (a':Act) (w':World) (μ':Pl),vM w df→(∃vs gs h1 r1 h2 ids r hs',dI P T' h' fn.results.toList=some vs∧eP h' gs=some h1∧WkV (dA vs) r1∧WkH h1 h2∧fin hs.length ids h2 r1=some (r,hs')∧Post r hs')→
   aR w' μ' h'→Good w μ hs w' μ' h'→dP w' μ' h' T' a'→pO df w'→
   LeavesInM (FW none) 0 P fn a'.tmps (fun e w'=>∃r x h' μ',e = .returned x∧Post r h'∧aR w' μ' h'∧aZ w' μ' h' r x∧Good w μ hs w' μ' h') df .returning w':=by
  intro df;induction df with
  |nil=>
   rintro T' h' a' w' μ' _ ⟨vs,gs,h1,r1,h2,ids,r,hs',e1,q1,q2,q3,e2,hp⟩ H' G' S' _;obtain⟨x,hx,hr⟩:=ze3 H' S' e1;obtain⟨μ1,H1,g1⟩:=vA H' q1;have g2:Good w' μ1 h1 w' μ1 h2:=q3.good;have hr1:=q2.rep ((hr.good g1).good g2);obtain⟨μ'',H'',hr'',G''⟩:=zr0 (q3.hrep H1) ((G'.trans g1).trans g2) hr1 e2;exact⟨x,hx,r,x,hs',μ'',rfl,hp,H'',hr'',G''⟩
  |cons d df ih=>
   intro T' h' a' w' μ' hom hx H' G' S' hmk;obtain⟨D,hD,hsz⟩:=hom.1 d (by simp);have hDw:=hmk d (by simp) D hD;refine⟨by simp,.inl ⟨D,_,hD,run_takeDeferred hDw,?_⟩⟩;refine ih T' h' a' _ μ' ⟨fun d' hd'=>hom.1 d' (by simp[hd']),(kz2.1 hom.2).2⟩ hx (H'.turn hDw xY) (G'.turn hDw xY hsz) (fun i v hi=>(S' i v hi).turn hDw xY) ?_;intro d' hd' D' hD';have hne:D'≠D:=fun e=>(kz2.1 hom.2).1 d' hd' (by rw[hD,hD',e]);rw[nY _ _ _ _ hne];exact hmk d' (by simp[hd']) D' hD'
 intro e T' h' a' w' df' hom hv' s';obtain⟨μ',H',G',S',_,hdf,hmk⟩:=s';have key:=fun hx=>fin df' T' h' a' w' μ' hom hx H' G' S' hmk;rw[←hdf]at key;cases e with
 |normal=>exact key hv'
 |ret=>exact key hv'
 |exit id=>exact hv'.elim
end Go.Vt
