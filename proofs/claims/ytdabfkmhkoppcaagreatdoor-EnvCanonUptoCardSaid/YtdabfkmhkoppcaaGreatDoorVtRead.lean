import Derived.Test.YtdabfkmhkoppcaaGreatDoorVtFun
import GoSem.ClaimChange
set_option linter.all false
open Bool renaming and_eq_true→ks2
open List renaming all_eq_true→ku0,getElem?_eq_getElem→kr1,getElem?_eq_some_iff→kp9,getElem?_range→kI5,mapM_cons→kI0,range→kt4
open Option renaming bind_eq_some_iff→kG2,bind_some→ku8,map_eq_some_iff→kv7
namespace Go.Vt
set_option linter.unusedSectionVars false
set_option linter.unusedVariables false
variable [cJ]
mutual
def rdD {H:Type}:DataW H→List D
 |.lit (.bool b)=>[.bool b]
 |.lit (.int k n)=>[.int k n]
 |.lit (.string l)=>[.str ⟨l.toArray⟩]
 |.nil=>[.sl []]
 |.slice e _=>[.sl (rK e)]
 |.agg ps=>jT ps
 |_=>[]
def rK {H:Type}:List (DataW H)→List (List D)
 |[]=>[]
 |d::r=>rdD d::rK r
def jT {H:Type}:List (DataW H)→List D
 |[]=>[]
 |d::r=>rdD d++jT r
end
theorem zW8 {H:Type}:∀l:List (DataW H),rK l=l.map rdD
 |[]=>by simp[rK]
 |d::r=>by simp[rK,zW8 r]
def xZ (P:Program) (n:Nat):Nat→List Field→Bool
 |o,[]=>o == n
 |o,f::r=>f.offset == o&&xZ P n (o+P.cellsOf f.type) r
def zr9 (P:Program) (S:List TypeId) (t:TypeId):Bool:=match P.underlying t with
 |some .bool=>P.cellsOf t == 1
 |some (.int _)=>P.cellsOf t == 1
 |some .string=>P.cellsOf t == 1
 |some (.slice e)=>S.contains e&&P.cellsOf t == 1&&decide (0<P.cellsOf e)
 |some (.struct fs)=>fs.toList.all (fun f=>S.contains f.type)&&xZ P (P.cellsOf t) 0 fs.toList
 |_=>false
theorem ze6 {α β:Type} {f:α→Option β}:∀{l:List α} {r:List β},l.mapM f=some r→r.length=l.length∧∀(i:Nat) (y:β),r[i]?=some y→∃x,l[i]?=some x∧f x=some y
 |[],r,h=>by simp at h;subst h;exact⟨rfl,by simp⟩
 |a::l,r,h=>by
  rw[kI0]at h;cases hf:f a with
  |none=>simp[hf]at h
  |some b=>
   cases hl:l.mapM f with
   |none=>simp[hf,hl]at h
   |some bs=>
    simp[hf,hl]at h;subst h;obtain⟨h1,h2⟩:=ze6 hl;refine⟨by simp[h1],fun i y hi=>?_⟩;cases i with
    |zero=>simp at hi;subst hi;exact⟨a,rfl,hf⟩
    |succ i=>obtain⟨x,a1,a2⟩:=h2 i y (by simpa using hi);exact⟨x,by simpa using a1,a2⟩
def zs0 (w:World) (cs:List Value) (n:Nat) (l:List D):Prop:=cs.length=n∧l.length=n∧∀(j:Nat) (x:D) (v:Value),l[j]?=some x→cs[j]?=some v→cM w (fun _=>False) x v
theorem yA {w:World} {v:Value} {x:D} (h:cM w (fun _=>False) x v):zs0 w [v] 1 [x]:=by
 refine⟨rfl,rfl,fun j y u hj hu=>?_⟩;cases j with
 |zero=>simp at hj hu;subst hj;subst hu;exact h
 |succ j=>simp at hj
theorem zW9 {P:Program} {w:World} {H:Type} {n:Nat} {cs:List Value} (hn:cs.length=n) {g:Field→Option (DataW H×List MemPlace)}:∀{fs:List Field} {o:Nat} {xs:List (DataW H×List MemPlace)},xZ P n o fs=true→fs.mapM g=some xs→
  (∀f∈fs,∀x,g f=some x→zs0 w ((cs.drop f.offset).take (P.cellsOf f.type)) (P.cellsOf f.type) (rdD x.1))→o≤n∧(jT (xs.map (·.1))).length=n-o∧∀(j:Nat) (x:D) (v:Value),(jT (xs.map (·.1)))[j]?=some x→cs[o+j]?=some v→cM w (fun _=>False) x v
 |[],o,xs,ho,hm,_=>by
  simp[xZ]at ho;simp at hm;subst hm;subst ho;exact⟨Nat.le_refl _,by simp[jT],by simp[jT]⟩
 |f::r,o,xs,ho,hm,hf=>by
  simp only[xZ,ks2,beq_iff_eq]at ho;obtain⟨h1,h2⟩:=ho;rw[kI0]at hm;cases hg:g f with
  |none=>simp[hg]at hm
  |some y=>
   cases hl:r.mapM g with
   |none=>simp[hg,hl]at hm
   |some ys=>
    simp[hg,hl]at hm;subst hm;obtain⟨a1,a2,a3⟩:=zW9 (w:=w) hn h2 hl (fun f hf'=>hf f (by simp[hf']));obtain⟨b1,b2,b3⟩:=hf f (by simp) y hg;refine⟨by omega,by simp[jT,b2,a2];omega,fun j x v hj hv=>?_⟩;simp only[List.map_cons,jT]at hj;rcases Nat.lt_or_ge j (P.cellsOf f.type)with hlt|hge
    ·rw[List.getElem?_append_left (by omega)]at hj;refine b3 j x v hj ?_;rw[List.getElem?_take,if_pos hlt,List.getElem?_drop,h1];exact hv
    ·rw[List.getElem?_append_right (by omega),b2]at hj;refine a3 (j-P.cellsOf f.type) x v hj ?_;rw[show o+P.cellsOf f.type+(j-P.cellsOf f.type)=o+j by omega];exact hv
theorem ju1 {w:World} {base n:Nat} {a:Addr} {cs:List Value} (h:w.cells? base a n=some cs):cs.length=n∧∀(j:Nat) (v:Value),cs[j]?=some v→w.cell? (a.add j)=some v:=by
 unfold World.cells? at h;split at h
 ·obtain⟨h1,h2⟩:=ze6 h;refine⟨by simpa using h1,fun j v hj=>?_⟩;obtain⟨i,hi,hc⟩:=h2 j v hj;rw[kI5 (by have:=(kp9.1 hj).1;simp at h1;omega)]at hi;cases hi;exact hc
 ·cases h
theorem zX0 {P:Program} {S:List TypeId} (hS:S.all (zr9 P S)=true) {H:Type} {enc:TypeId×Value→H} {w:World} {base:Nat} {sp:Nat→Bool} {held:Bool}:∀(fuel:Nat) (t:TypeId) (cs:List Value) (d:DataW H) (ps:List MemPlace),t∈S→
  DataW.trod enc P w base sp held fuel t cs=some (d,ps)→zs0 w cs (P.cellsOf t) (rdD d):=by
 intro fuel;induction fuel with
 |zero=>intro t cs d ps _ h;simp[DataW.trod]at h
 |succ fuel ih=>
  intro t cs d ps ht h;have hp:=ku0.1 hS t ht;unfold zr9 at hp;unfold DataW.trod at h;cases hu:P.underlying t with
  |none=>rw[hu]at hp;cases hp
  |some k=>
   rw[hu]at hp h;cases k with
   |bool=>
    have hc:P.cellsOf t=1:=by simpa using hp
    match cs with
    |[]=>simp at h
    |_::_::_=>simp at h
    |[v]=>
     cases v<;>simp at h
     obtain⟨rfl,_⟩:=h;rw[hc];simp only[rdD];exact yA (.bool _)
   |int k=>
    have hc:P.cellsOf t=1:=by simpa using hp
    match cs with
    |[]=>simp at h
    |_::_::_=>simp at h
    |[v]=>
     cases v<;>simp at h
     obtain⟨⟨rfl,_⟩,rfl,_⟩:=h;rw[hc];simp only[rdD];exact yA (.int _ _)
   |string=>
    have hc:P.cellsOf t=1:=by simpa using hp
    match cs with
    |[]=>simp at h
    |_::_::_=>simp at h
    |[v]=>
     cases v<;>simp at h
     obtain⟨_,rfl,_⟩:=h;rw[hc];simp only[rdD];exact yA (.str _)
   |slice e=>
    simp only[ks2,beq_iff_eq,decide_eq_true_eq]at hp;obtain⟨⟨he,hc⟩,hpos⟩:=hp;have he:e∈S:=by simpa using he
    match cs with
    |[]=>simp at h
    |_::_::_=>simp at h
    |[v]=>
     cases v with
     |slice a len cap=>
      cases a with
      |none=>
       cases len with
       |zero=>
        cases cap with
        |zero=>simp at h;obtain⟨rfl,_⟩:=h;rw[hc];simp only[rdD];exact yA (.sl0 _ _)
        |succ _=>simp at h
       |succ _=>simp at h
      |some a=>
       simp only at h;split at h
       ·rename_i hcond;cases hm:(kt4 len).mapM (fun i=>(w.cells? base (a.add (i*P.cellsOf e)) (P.cellsOf e)).bind (DataW.trod enc P w base sp held fuel e))with
        |none=>simp[hm]at h
        |some elems=>
         simp only[hm,ku8,kv7]at h;obtain⟨rest,_,h⟩:=h;cases h;rw[hc];simp only[rdD];refine yA ?_;obtain⟨m1,m2⟩:=ze6 hm;have m1:elems.length=len:=by simpa using m1
         rw[zW8,List.map_map];by_cases hl:len=0
         ·subst hl;have:elems=[]:=List.eq_nil_of_length_eq_zero m1;subst this;exact .sl0 _ _
         have hrow:∀(i:Nat) (r:List D),(elems.map (rdD∘(·.1)))[i]?=some r→r.length=P.cellsOf e∧∀(j:Nat) (x:D),r[j]?=some x→∃v,w.cell? ((a.add (i*P.cellsOf e)).add j)=some v∧cM w (fun _=>False) x v:=by
          intro i r hi;rw[List.getElem?_map,kv7]at hi;obtain⟨y,hy,rfl⟩:=hi;obtain⟨i',hi',hy'⟩:=m2 i y hy;have hlt:i<len:=by rw[←m1];exact(kp9.1 hy).1
          rw[kI5 hlt]at hi';cases hi';rw[kG2]at hy';obtain⟨cs',hcs,htr⟩:=hy';obtain⟨c1,c2⟩:=ju1 hcs;obtain⟨r1,r2,r3⟩:=ih e cs' y.1 y.2 he htr;refine⟨r2,fun j x hj=>?_⟩;have hjlt:j<cs'.length:=by
           have:=(kp9.1 hj).1;simp only[Function.comp]at this;omega
          exact⟨cs'[j],c2 j _ (kr1 hjlt),r3 j x _ hj (kr1 hjlt)⟩
         have hcell:∀(i j:Nat) (r:List D) (x:D),(elems.map (rdD∘(·.1)))[i]?=some r→r[j]?=some x→∃v,w.cell? ⟨a.block,a.off+(i*P.cellsOf e+j),none⟩=some v∧cM w (fun _=>False) x v:=by
          intro i j r x hi hj;obtain⟨v,hv,hr⟩:=(hrow i r hi).2 j x hj;refine⟨v,?_,hr⟩;have hsp:((a.add (i*P.cellsOf e)).add j).spot=none:=by
           generalize (a.add (i*P.cellsOf e)).add j=a' at hv;unfold World.cell? at hv;split at hv
           ·split at hv
            ·cases hv
            ·rename_i hs;simpa using hs
           ·cases hv
          have:(a.add (i*P.cellsOf e)).add j=⟨a.block,a.off+(i*P.cellsOf e+j),none⟩:=by
           revert hsp
           obtain⟨b,off,s⟩:=a;unfold Addr.add;intro hsp;by_cases h1:i*P.cellsOf e=0<;>by_cases h2:j=0<;>simp[h1,h2]at hsp ⊢<;>first|exact hsp|omega
          rwa [this]at hv
         have hlt0:0<elems.length:=by omega
         have h0:(elems.map (rdD∘(·.1)))[0]?=some (rdD elems[0].1):=by simp[hlt0]
         have hr0:=hrow 0 _ h0;obtain⟨v0,hv0,_⟩:=hcell 0 0 _ _ h0 (kr1 (by omega));have hsp:a.spot=none:=by
          obtain⟨v,hv,_⟩:=hr0.2 0 _ (kr1 (by omega));simp only[Nat.zero_mul,Addr.add,if_true]at hv;unfold World.cell? at hv;split at hv
          ·split at hv
           ·cases hv
           ·rename_i hs;simpa using hs
          ·cases hv
         have ha:a=⟨a.block,a.off,none⟩:=by cases a;simp at hsp;subst hsp;rfl
         have hlen:len=(elems.map (rdD∘(·.1))).length:=by simp[m1]
         rw[ha];conv=>arg 4;rw[hlen]
         refine .sl (P.cellsOf e) _ a.block a.off cap (fun i j=>(w.cell? ⟨a.block,a.off+(i*P.cellsOf e+j),none⟩).getD undef) (fun hnil=>?_) (fun h=>h) ?_ ?_ (fun i r hi=>(hrow i r hi).1) (fun i j r x hi hj=>?_) (fun i j r x hi hj=>?_)
         ·rw[hnil]at hlen;exact hl hlen
         ·exact World.block_lt_of_cell? w (a:=⟨a.block,a.off+(0*P.cellsOf e+0),none⟩) hv0
         ·rw[←hlen];exact hcond.2.1
         ·obtain⟨v,hv,_⟩:=hcell i j r x hi hj;rw[hv];rfl
         ·obtain⟨v,hv,hr⟩:=hcell i j r x hi hj;rw[hv];exact hr
       ·cases h
     |_=>simp at h
   |struct fs=>
    simp only[ks2]at hp;simp only at h;split at h
    ·rename_i hlen;simp only[kv7]at h;obtain⟨xs,hxs,h⟩:=h;cases h;simp only[rdD];have hmem:∀f∈fs.toList,f.type∈S:=fun f hf=>by simpa using ku0.1 hp.1 f hf
     obtain⟨r1,r2,r3⟩:=zW9 (w:=w) hlen hp.2 hxs (fun f hf x hx=>ih f.type _ x.1 x.2 (hmem f hf) hx);exact⟨hlen,by rw[r2];omega,fun j x v hj hv=>r3 j x v hj (by rw[Nat.zero_add];exact hv)⟩
    ·cases h
   |_=>simp at hp
section
variable {P:Program} {H:Type} {enc:TypeId×Value→H} {w:World} {base:Nat} {sp:Nat→Bool} {held:Bool}
theorem zX1 {t:TypeId} {k:IntKind} (hu:P.underlying t=some (.int k)) {fuel:Nat} {cs:List Value} {d:DataW H} {ps:List MemPlace} (h:DataW.trod enc P w base sp held fuel t cs=some (d,ps)):∃n,cs=[.int k n]∧d = .lit (.int k n)∧(Lit.int k n).wf=true:=by
 cases fuel with
 |zero=>simp[DataW.trod]at h
 |succ fuel=>
  unfold DataW.trod at h;rw[hu]at h
  match cs with
  |[]=>simp at h
  |_::_::_=>simp at h
  |[v]=>
   cases v<;>simp at h
   obtain⟨⟨rfl,hw⟩,rfl,_⟩:=h;exact⟨_,rfl,rfl,hw⟩
theorem ju2 {t:TypeId} {fs:Array Field} (hu:P.underlying t=some (.struct fs)) {fuel:Nat} {cs:List Value} {d:DataW H} {ps:List MemPlace} (h:DataW.trod enc P w base sp held (fuel+1) t cs=some (d,ps)) :
  cs.length=P.cellsOf t∧∃xs,fs.toList.mapM (fun f=>DataW.trod enc P w base sp held fuel f.type ((cs.drop f.offset).take (P.cellsOf f.type)))=some xs∧d = .agg (xs.map (·.1)):=by
 unfold DataW.trod at h;rw[hu]at h;simp only at h;split at h
 ·rename_i hl;rw[kv7]at h;obtain⟨xs,hxs,h⟩:=h;cases h;exact⟨hl,xs,hxs,rfl⟩
 ·cases h
theorem ju3 {t e:TypeId} (hu:P.underlying t=some (.slice e)) {fuel:Nat} {cs:List Value} {d:DataW H} {ps:List MemPlace} (h:DataW.trod enc P w base sp held (fuel+1) t cs=some (d,ps)) :
  (d = .nil∧cs=[.slice none 0 0])∨∃elems rest:List (DataW H),d = .slice elems rest∧(∃a cap,cs=[.slice (some a) elems.length cap])∧∀x∈elems,∃cs' ps',DataW.trod enc P w base sp held fuel e cs'=some (x,ps'):=by
 unfold DataW.trod at h;rw[hu]at h
 match cs with
 |[]=>simp at h
 |_::_::_=>simp at h
 |[v]=>
  cases v with
  |slice a len cap=>
   cases a with
   |none=>
    cases len with
    |zero=>
     cases cap with
     |zero=>simp at h;exact .inl ⟨h.1.symm,rfl⟩
     |succ _=>simp at h
    |succ _=>simp at h
   |some a=>
    simp only at h;split at h
    ·cases hm:(kt4 len).mapM (fun i=>(w.cells? base (a.add (i*P.cellsOf e)) (P.cellsOf e)).bind (DataW.trod enc P w base sp held fuel e))with
     |none=>simp[hm]at h
     |some elems=>
      simp only[hm,ku8,kv7]at h;obtain⟨rest,_,h⟩:=h;cases h;obtain⟨m1,m2⟩:=ze6 hm;refine .inr ⟨_,_,rfl,⟨a,cap,?_⟩,fun x hx=>?_⟩
      ·have:len=(elems.map (·.1)).length:=by simpa using m1.symm
       rw[←this]
      ·obtain⟨y,hy,rfl⟩:=List.mem_map.1 hx;obtain⟨i,hi⟩:=List.getElem?_of_mem hy;obtain⟨_,_,hb⟩:=m2 i y hi;rw[kG2]at hb;obtain⟨cs',_,htr⟩:=hb;exact⟨cs',y.2,htr⟩
    ·cases h
  |_=>simp at h
theorem ju4 {r:Reach} {t:TypeId} (hu:(match P.underlying t with|some (.struct _)=>false|some (.array _ _)=>false|some _=>true|none=>false)=true) {v:Value} (hv:Value.okWide P w r base t v):v.cells.toList=[v]:=by
 unfold Value.okWide at hv;cases hd:P.underlying t with
 |none=>rw[hd]at hu;cases hu
 |some d=>
  rw[hd]at hu hv;cases v with
  |agg cs=>
   exfalso;cases d<;>simp at hu<;>simp only[Cell.okWide,hd]at hv<;>simp[Cell.ok,hd]at hv
  |_=>rfl
end
end Go.Vt
