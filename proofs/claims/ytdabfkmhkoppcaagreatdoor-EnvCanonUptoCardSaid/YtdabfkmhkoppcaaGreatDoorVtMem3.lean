import Derived.Test.YtdabfkmhkoppcaaGreatDoorVtMem2
set_option linter.all false
open Array renaming getElem?_eq_getElem→ks6,getElem_of_mem→kz6,length_toList→kE4,range→kK3,size_map→kJ7,size_range→kI9
open List renaming getElem?_eq_getElem→kr1,getElem?_eq_some_iff→kp9,length_cons→kr4
open Nat renaming add_zero→kA5,le_refl→ks0,mul_comm→kD8,mul_one→kJ9,succ_mul→kD3,zero_add→kt2
namespace Go.Vt
set_option linter.unusedSectionVars false
set_option linter.unusedVariables false
variable [cJ]
variable {P:Program} {w:World} {μ:Pl} {h:aB} {T:Sl} {a:Act}
theorem zp3:∀(vs:List (Nat×V)) {h:aB},aR w μ h→aR w μ (jD h vs)∧Good w μ h w μ (jD h vs)
 |[],_,H=>⟨H,kn9 _ _ _⟩
 |(k,v)::r,h,H=>by
  unfold jD;split
  ·rename_i ls hls;obtain⟨H1,g1⟩:=zn4 ls H;obtain⟨H2,g2⟩:=zp3 r H1;exact⟨H2,g1.trans g2⟩
  ·exact zp3 r H
theorem jp3 (h:aB) (id:Nat):(fzOne h id).length=h.length:=by unfold fzOne;split<;>simp
theorem zT9:∀(ls:List L) (h:aB),(lH h ls).length=h.length
 |[],_=>rfl
 |l::r,h=>by
  simp only[lH,zT9 r];unfold fzL;split
  ·exact jp3 _ _
  ·rfl
theorem zp4:∀(vs:List (Nat×V)) (h:aB),(jD h vs).length=h.length
 |[],_=>rfl
 |(k,v)::r,h=>by
  unfold jD;split
  ·rw[zp4 r,zT9]
  ·exact zp4 r h
theorem zp5 (size:Nat):∀(xs:List (Nat×Value)) (n:Nat) (cs:Array Value),(∀(m:Nat) (p:Nat×Value),xs[m]?=some p→p.1=n+m∧p.2.cells.size=size)→(n+xs.length)*size≤cs.size→
  ∃cs',Instr.fill (fun i=>some (i*size,size)) cs xs=some cs'∧cs'.size=cs.size∧(∀k,k<n*size→cs'[k]?=cs[k]?)∧
   ∀(m:Nat) (p:Nat×Value),xs[m]?=some p→∀j,j<size→cs'[(n+m)*size+j]?=p.2.cells[j]?
 |[],n,cs,_,_=>⟨cs,rfl,rfl,fun _ _=>rfl,fun m p hm=>by simp at hm⟩
 |(k,x)::r,n,cs,hx,hl=>by
  obtain⟨e1,e2⟩:=hx 0 _ rfl;simp only[kA5]at e1;subst e1;simp only[kr4]at hl;have hk:k*size+size≤cs.size:=by
   have:(k+1)*size≤(k+(r.length+1))*size:=Nat.mul_le_mul_right _ (by omega);rw[kD3]at this;omega
  obtain⟨f1,f2⟩:=zn7 (k*size) x.cells.toList 0 cs (by simp only[kE4];simp only at e2;omega);simp only[kE4,kA5]at f1 f2;simp only at e2;obtain⟨cs',g1,g2,g3,g4⟩:=zp5 size r (k+1) ((x.cells.toList.zipIdx 0).foldl (fun(cs:Array Value) (x:Value×Nat)=>cs.setIfInBounds (k*size+x.2) x.1) cs)
   (fun m p hm=>by obtain⟨a,b⟩:=hx (m+1) p (by simpa using hm);exact⟨by omega,b⟩) (by rw[f1,show k+1+r.length=k+(r.length+1)by omega];exact hl)
  refine⟨cs',?_,g2.trans f1,?_,?_⟩
  ·unfold Instr.fill;simp only;rw[if_neg (by simp;omega)];have:Array.foldl (fun(cs:Array Value) (x:Value×Nat)=>cs.setIfInBounds (k*size+x.2) x.1) cs x.cells.zipIdx=(x.cells.toList.zipIdx 0).foldl (fun(cs:Array Value) (x:Value×Nat)=>cs.setIfInBounds (k*size+x.2) x.1) cs:=by
    rw[←Array.foldl_toList];congr 1;simp
   rw[←g1,←this]
  ·intro q hq;rw[g3 q (by rw[kD3];omega),f2 q,if_neg (by omega)]
  ·intro m p hm j hj;cases m with
   |zero=>
    simp at hm;subst hm;simp only[kA5];rw[g3 _ (by rw[kD3];omega),f2,if_pos (by omega)];simp
   |succ m=>
    have:=g4 m p (by simpa using hm) j hj;rw[show k+(m+1)=k+1+m by omega];exact this
theorem zU0 {size:Nat}:∀{vs:List (Nat×V)} {n:Nat} {rows:List (List D)},qX h size n vs=some rows→rows.length=vs.length∧
  ∀(m:Nat) (ds:List D),rows[m]?=some ds→∃v ls,vs[m]?=some (n+m,v)∧iG v=some ls∧kQ h ls=some ds∧ds.length=size
 |[],n,rows,hr=>by cases hr;exact⟨rfl,by simp⟩
 |(k,v)::r,n,rows,hr=>by
  unfold qX at hr;split at hr
  ·rename_i e;subst e;split at hr
   ·rename_i ls hls;split at hr
    ·rename_i ds rr hds hrr;split at hr
     ·rename_i hsz;cases hr;obtain⟨h1,h2⟩:=zU0 hrr;refine⟨by simp[h1],?_⟩;intro m d hm;cases m with
      |zero=>simp at hm;subst hm;exact⟨v,ls,rfl,hls,hds,hsz⟩
      |succ m=>
       obtain⟨v',ls',a,b,c,e⟩:=h2 m d (by simpa using hm);exact⟨v',ls',by simp[a];omega,b,c,e⟩
     ·cases hr
    ·cases hr
   ·cases hr
  ·cases hr
theorem jp4 {t:TypeId} {i:TI} {e:EI} (ht:ti P t=some i) (he:i.el=some e) (H:aR w μ h) {n:Nat} {vs:List (Nat×V)} {xs:List (Nat×Value)} {rows:List (List D)} (hl:vs.length=xs.length) (hn:vs.length=n)
  (hp:∀(j:Nat) (p:Nat×V) (x:Nat×Value),vs[j]?=some p→xs[j]?=some x→x.1=p.1∧aZ w μ h p.2 x.2) (hsz:n*e.size≤16777216) (hz:e.zero.isSome=true) (hk:∀(j:Nat) (p:Nat×V),vs[j]?=some p→jR p.2=true)
  (hr:qX (jD h vs) e.size 0 vs=some rows) :
  ∃v' w' μ',(Instr.buildSlice t n xs.toArray).run P w = .ok v' w'∧aR w' μ' (jD h vs++[.arr false e.size 0 rows])∧aY w' μ' (jD h vs++[.arr false e.size 0 rows]) (.own h.length 0 n) v'∧v'.oneCell'=true∧
   Good w μ h w' μ' (jD h vs++[.arr false e.size 0 rows]):=by
 obtain⟨I,d,h1,h2,h3,h4,h5,h6,h7,h8,h9,h10,_⟩:=fE ht;obtain⟨et,rfl⟩:=h10 (by rw[he];rfl);have hE:iU P et=some e:=by rw[←h9 et rfl];exact he
 obtain⟨E,dE,g1,g2,g3,g4,g5,g6⟩:=pH hE;obtain⟨H1,k1⟩:=zp3 vs H;obtain⟨r1,r2⟩:=zU0 hr;have part:∀(m:Nat) (ds:List D),rows[m]?=some ds→∃x,xs[m]?=some (m,x)∧x.cells.size=e.size∧(∀c∈x.cells,c.oneCell'=true)∧ds.length=e.size∧∀(j:Nat) (y:D),ds[j]?=some y→∃c,x.cells[j]?=some c∧cM w (Mut μ (jD h vs)) y c:=by
  intro m ds hm;obtain⟨v,ls,a1,a2,a3,a4⟩:=r2 m ds hm;have hlt:m<xs.length:=by have:=(kp9.1 a1).1;omega
  have hx:=kr1 hlt;obtain⟨b1,b2⟩:=hp m _ _ a1 hx;obtain⟨c1,c2,c3⟩:=b2.cells' a2 (hk m _ a1);obtain⟨d1,d2⟩:=zn5 H1 a3;refine⟨xs[m].2,?_,by omega,c2,a4,fun j y hj=>?_⟩
  ·rw[hx];simp at b1;congr 1;exact Prod.ext (by simp[b1]) rfl
  ·have hjl:=(kp9.1 hj).1;have hjc:j<xs[m].2.cells.size:=by omega
   have hjs:ls[j]?=some ls[j]:=kr1 (by omega);exact⟨_,ks6 hjc,d2 j y _ _ hj hjs ((c3 j _ _ hjs (ks6 hjc)).good k1)⟩
 have hxs:∀(m:Nat) (p:Nat×Value),xs[m]?=some p→p.1=0+m∧p.2.cells.size=e.size:=by
  intro m p hm;have hlt:m<rows.length:=by have:=(kp9.1 hm).1;omega
  obtain⟨x,a,b,_⟩:=part m _ (kr1 hlt);rw[hm]at a;cases a;exact⟨by simp,b⟩
 have hzero:∃cs0:Array Value,(n*e.size=0∧cs0=#[])∨(n*e.size≠0∧∃z:Value,(zeroValue et).run P w = .ok z w∧cs0=z.cells):=by
  by_cases c:n*e.size=0
  ·exact⟨#[],.inl ⟨c,rfl⟩⟩
  ·obtain⟨z,hz'⟩:∃z,E.zero=some z:=by
    rw[g5]at hz;cases hh:E.zero with
    |none=>simp[hh]at hz
    |some z=>exact⟨z,rfl⟩
   exact⟨z.cells,.inr ⟨c,z,by simp[zeroValue,typeInfo,g1,hz',Result.andThen],rfl⟩⟩
 obtain⟨cs0,hcs0⟩:=hzero;have hxn:xs.length=n:=by omega
 obtain⟨cs',f1,f2,f3,f4⟩:=zp5 e.size xs 0 ((kK3 (n*e.size)).map (cs0[· % cs0.size]!)) hxs (by simp[hxn]);simp only[kJ7,kI9]at f2;have hrun:(Instr.buildSlice t n xs.toArray).run P w = .ok (.slice (some ⟨w.heap.size,0,none⟩) n n) (w.alloc (.cells cs' et)):=by
  have hs:(sizeOf et).run P w = .ok e.size w:=oP hE;have hle:¬(n*e.size>2 ^ 24):=by omega
  rcases hcs0 with⟨c,rfl⟩|⟨c,z,hzr,rfl⟩
  ·simp only[Instr.buildSlice,Sem.run_bind,run_underlying h2,Result.andThen,hs,if_neg hle,Sem.run_pure,if_pos c];rw[f1];rfl
  ·simp only[Instr.buildSlice,Sem.run_bind,run_underlying h2,Result.andThen,hs,if_neg hle,Sem.run_pure,if_neg c,hzr];rw[f1];rfl
 have hrn:rows.length=n:=by omega
 have hcell:∀(m j:Nat),m<n→j<e.size→∃ds x c,rows[m]?=some ds∧xs[m]?=some (m,x)∧cs'[m*e.size+j]?=some c∧x.cells[j]?=some c∧c.oneCell'=true:=by
  intro m j hm hj;have hr:=kr1 (l:=rows) (i:=m) (by omega);obtain⟨x,a,b,c,d,e'⟩:=part m _ hr;have:=f4 m _ a j hj;simp only[kt2]at this;have hjc:j<x.cells.size:=by omega
  exact⟨_,x,x.cells[j],hr,a,by rw[this];exact ks6 hjc,ks6 hjc,c _ (Array.getElem_mem _)⟩
 have hnew:xC w μ (jD h vs) cs' (.arr false e.size 0 rows):=by
  refine⟨by rw[hrn,f2];exact ks0 _,?_,?_,?_⟩
  ·intro v hv;obtain⟨q,hq,rfl⟩:=kz6 hv;rw[f2]at hq;have hs0:0<e.size:=by rcases Nat.eq_zero_or_pos e.size with c|c;rw[c]at hq;simp at hq;exact c
   obtain⟨ds,x,c,_,_,c1,_,c2⟩:=hcell (q / e.size) (q % e.size) (Nat.div_lt_of_lt_mul (by rw[kD8];exact hq)) (Nat.mod_lt _ hs0);have hdm:q / e.size*e.size+q % e.size=q:=by rw[kD8];exact Nat.div_add_mod q e.size
   rw[hdm,ks6 (by rw[f2];exact hq)]at c1;cases c1;exact c2
  ·intro m ds hm;obtain⟨x,_,_,_,d,_⟩:=part m ds hm;exact d
  ·intro m j ds y hm hj;obtain⟨x,a,b,c,d,e'⟩:=part m ds hm;obtain⟨u,hu,hd⟩:=e' j y hj;refine⟨u,?_,hd⟩;have hjl:j<e.size:=by rw[←d];exact(kp9.1 hj).1
   have:=f4 m _ a j hjl;simp only[kt2]at this;rw[this];exact hu
 have hlen:=zp4 vs h;refine⟨_,_,_,hrun,H1.push hnew,?_,rfl,k1.trans (Good.push _ _ _ _ _)⟩;rw[←hlen];exact .own (ty:=none) (fz:=false) (sz:=e.size) (xs:=rows) (by simp) (by omega) (ko3 _ _ _) (ks0 _) (heap_alloc_new w (.cells cs' et)) (by rw[f2];exact ks0 _)
theorem zU1:∀{vs:List (Nat×V)} {n:Nat} {ls:List L},rC n vs=some ls→ls.length=vs.length∧∀(m:Nat) (l:L),ls[m]?=some l→vs[m]?=some (n+m,.one l)
 |[],n,ls,hr=>by cases hr;exact⟨rfl,by simp⟩
 |(k,v)::r,n,ls,hr=>by
  unfold rC at hr;split at hr
  ·rename_i e;subst e;split at hr
   ·rename_i l rr hrr;cases hr;obtain⟨h1,h2⟩:=zU1 hrr;refine⟨by simp[h1],fun m l' hm=>?_⟩;cases m with
    |zero=>simp at hm;subst hm;rfl
    |succ m=>
     have:=h2 m l' (by simpa using hm);simp[this];omega
   ·cases hr
  ·cases hr
theorem jp5 {t:TypeId} {i:TI} {e:EI} (ht:ti P t=some i) (he:i.el=some e) (H:aR w μ h) {n:Nat} {vs:List (Nat×V)} {xs:List (Nat×Value)} {ls:List L} (hl:vs.length=xs.length) (hn:vs.length=n)
  (hp:∀(j:Nat) (p:Nat×V) (x:Nat×Value),vs[j]?=some p→xs[j]?=some x→x.1=p.1∧aZ w μ h p.2 x.2) (hsz:n*e.size≤16777216) (hz:e.zero.isSome=true) (hk:∀(j:Nat) (p:Nat×V),vs[j]?=some p→jR p.2=true)
  (he1:e.size=1) (hr:rC 0 vs=some ls) :
  ∃v' w' μ',(Instr.buildSlice t n xs.toArray).run P w = .ok v' w'∧aR w' μ' (h++[.box ls])∧aY w' μ' (h++[.box ls]) (.bsl h.length 0 n) v'∧v'.oneCell'=true∧Good w μ h w' μ' (h++[.box ls]):=by
 obtain⟨I,d,h1,h2,h3,h4,h5,h6,h7,h8,h9,h10,_⟩:=fE ht;obtain⟨et,rfl⟩:=h10 (by rw[he];rfl);have hE:iU P et=some e:=by rw[←h9 et rfl];exact he
 obtain⟨E,dE,g1,g2,g3,g4,g5,g6⟩:=pH hE;obtain⟨r1,r2⟩:=zU1 hr;have part:∀(m:Nat) (l:L),ls[m]?=some l→∃x,xs[m]?=some (m,x)∧x.cells.size=1∧(∀c∈x.cells,c.oneCell'=true)∧∃c,x.cells[0]?=some c∧aY w μ h l c:=by
  intro m l hm;have a1:=r2 m l hm;have hlt:m<xs.length:=by have:=(kp9.1 a1).1;omega
  have hx:=kr1 hlt;obtain⟨b1,b2⟩:=hp m _ _ a1 hx;obtain⟨c1,c2,c3⟩:=b2.cells' rfl (hk m _ a1);simp only[kr4,List.length_nil]at c1;refine⟨xs[m].2,?_,by omega,c2,_,ks6 (by omega),c3 0 l _ rfl (ks6 (by omega))⟩;rw[hx];simp at b1;congr 1;exact Prod.ext (by simp[b1]) rfl
 have hxs:∀(m:Nat) (p:Nat×Value),xs[m]?=some p→p.1=0+m∧p.2.cells.size=e.size:=by
  intro m p hm;have hlt:m<ls.length:=by have:=(kp9.1 hm).1;omega
  obtain⟨x,a,b,_⟩:=part m _ (kr1 hlt);rw[hm]at a;cases a;exact⟨by simp,by rw[he1];exact b⟩
 have hzero:∃cs0:Array Value,(n*e.size=0∧cs0=#[])∨(n*e.size≠0∧∃z:Value,(zeroValue et).run P w = .ok z w∧cs0=z.cells):=by
  by_cases c:n*e.size=0
  ·exact⟨#[],.inl ⟨c,rfl⟩⟩
  ·obtain⟨z,hz'⟩:∃z,E.zero=some z:=by
    rw[g5]at hz;cases hh:E.zero with
    |none=>simp[hh]at hz
    |some z=>exact⟨z,rfl⟩
   exact⟨z.cells,.inr ⟨c,z,by simp[zeroValue,typeInfo,g1,hz',Result.andThen],rfl⟩⟩
 obtain⟨cs0,hcs0⟩:=hzero;have hxn:xs.length=n:=by omega
 obtain⟨cs',f1,f2,f3,f4⟩:=zp5 e.size xs 0 ((kK3 (n*e.size)).map (cs0[· % cs0.size]!)) hxs (by simp[hxn]);simp only[kJ7,kI9]at f2;have hrun:(Instr.buildSlice t n xs.toArray).run P w = .ok (.slice (some ⟨w.heap.size,0,none⟩) n n) (w.alloc (.cells cs' et)):=by
  have hs:(sizeOf et).run P w = .ok e.size w:=oP hE;have hle:¬(n*e.size>2 ^ 24):=by omega
  rcases hcs0 with⟨c,rfl⟩|⟨c,z,hzr,rfl⟩
  ·simp only[Instr.buildSlice,Sem.run_bind,run_underlying h2,Result.andThen,hs,if_neg hle,Sem.run_pure,if_pos c];rw[f1];rfl
  ·simp only[Instr.buildSlice,Sem.run_bind,run_underlying h2,Result.andThen,hs,if_neg hle,Sem.run_pure,if_neg c,hzr];rw[f1];rfl
 have hrn:ls.length=n:=by omega
 rw[he1,kJ9]at f2;have hcell:∀(m:Nat) (l:L),ls[m]?=some l→∃c,cs'[m]?=some c∧c.oneCell'=true∧aY w μ h l c:=by
  intro m l hm;obtain⟨x,a,b,c,d,e1,e2⟩:=part m l hm;have:=f4 m _ a 0 (by omega);simp only[kt2,he1,kJ9,kA5]at this;exact⟨d,by rw[this];exact e1,c d (Array.mem_of_getElem? e1),e2⟩
 have hnew:xC w μ h cs' (.box ls):=by
  refine⟨by omega,fun v hv=>?_,fun j l v hj hv=>?_⟩
  ·obtain⟨q,hq,rfl⟩:=kz6 hv;obtain⟨c,c1,c2,_⟩:=hcell q _ (kr1 (by omega));rw[ks6 hq]at c1;cases c1;exact c2
  ·obtain⟨c,c1,_,c3⟩:=hcell j l hj;rw[hv]at c1;cases c1;exact c3
 refine⟨_,_,_,hrun,H.push hnew,?_,rfl,Good.push _ _ _ _ _⟩;exact .bsl (ty:=none) (cells:=ls) (by simp) (by omega) (ko3 _ _ _) (ks0 _) (heap_alloc_new w (.cells cs' et)) (by omega)
theorem jp6 {et:TypeId} {e:EI} {E:TypeInfo} (hE:iU P et=some e) (g1:P.info? et=some E) {n:Nat} {rows:List (List D)} (hz:xK e n=some rows) :
  ∃z ds,E.zero=some z∧rows=List.replicate n ds∧ds.length=e.size∧z.cells.size=e.size∧(∀v∈z.cells,v.oneCell'=true)∧∀(w:World) (M:Nat→Prop) (j:Nat) (y:D),ds[j]?=some y→∃c,z.cells[j]?=some c∧cM w M y c:=by
 obtain⟨E',dE,g1',g2,g3,g4,g5,g6⟩:=pH hE;rw[g1]at g1';cases g1';unfold xK at hz;split at hz
 ·rename_i zv hzv;split at hz
  ·rename_i ls hls;split at hz
   ·rename_i ds hds;split at hz
    ·rename_i hlen;cases hz;rw[g5]at hzv;cases hzz:E.zero with
     |none=>simp[hzz]at hzv
     |some z=>
      have ha:jL z=some zv:=by simpa[hzz]using hzv
      have hc:=zT7 ha hls;have hd0:ds.length=ls.length:=by
       have:∀(ls:List L) (ds:List D),kQ [] ls=some ds→ds.length=ls.length:=by
        intro ls;induction ls with
        |nil=>intro ds h;cases h;rfl
        |cons l r ih=>
         intro ds h;unfold kQ at h;split at h
         ·rename_i x xs hx hxs;cases h;simp[ih xs hxs]
         ·cases h
       exact this ls ds hds
      refine⟨z,ds,rfl,rfl,hlen,by omega,zp1 ha,fun w M j y hj=>?_⟩;have Hn:aR w ⟨fun _=>none,M⟩ []∨True:=.inr trivial;have hrep:aZ w ⟨fun _=>none,M⟩ [] zv z:=xB ha;have hjl:=(kp9.1 hj).1;have hjc:j<z.cells.size:=by omega
      refine⟨_,ks6 hjc,?_⟩;have hl:aY w ⟨fun _=>none,M⟩ [] ls[j] z.cells[j]:=by
       cases hrep with
       |one ho hl=>
        cases hls;have hz1:z.cells=#[z]:=by cases z<;>first|rfl|cases ho
        have hj0:j=0:=by rw[hz1]at hjc;simpa using hjc
        subst hj0;simp only[hz1];exact hl
       |top=>
        cases hls;have hj0:j=0:=by simp at hd0;omega
        subst hj0;exact .any
       |agg e1 e2 e3=>cases hls;exact e2 j _ _ (kr1 _) (ks6 hjc)
       |tup=>cases hls
      have hone:∀(ls:List L) (ds:List D) (j:Nat) (l:L) (y:D) (c:Value),kQ [] ls=some ds→ls[j]?=some l→ds[j]?=some y→aY w ⟨fun _=>none,M⟩ [] l c→cM w M y c:=by
       intro ls;induction ls with
       |nil=>intro ds j l y c h1 h2;simp at h2
       |cons l0 r ih=>
        intro ds j l y c h1 h2 h3 h4;unfold kQ at h1;split at h1
        ·rename_i x xs hx hxs;cases h1;cases j with
         |zero=>
          simp at h2 h3;subst h2;subst h3;unfold toD at hx;split at hx
          ·cases hx;cases h4 with|d hd=>
           exact hd.step (fun _ _ _=>rfl) (fun b hb=>.inl (.inr hb))
          ·cases hx;cases h4;exact .sl0 _ _
          ·simp at hx
          ·cases hx
         |succ j=>exact ih xs j l y c hxs (by simpa using h2) (by simpa using h3) h4
        ·cases h1
      exact hone ls ds j _ y _ hds (kr1 (by omega)) hj hl
    ·cases hz
   ·cases hz
  ·cases hz
 ·cases hz
end Go.Vt
