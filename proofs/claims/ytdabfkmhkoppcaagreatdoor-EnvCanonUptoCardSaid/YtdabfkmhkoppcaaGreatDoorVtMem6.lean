import Derived.Test.YtdabfkmhkoppcaaGreatDoorVtMem5
import Derived.Lib.UnsafeStr
import Derived.Lib.AppendStr
import Derived.Laws.Externs
import Derived.KernelRfl
set_option linter.all false
open Array renaming getElem?_append_left→kw2,getElem?_eq_some_iff→kt0,getElem?_modify→kz1,length_toList→kE4,mem_append→kD1,size_append→kB7,toList_inj→kv9
open Bool renaming and_eq_true→ks2
open List renaming getElem?_eq_some_iff→kp9,getElem?_map→ks1,getElem?_set_ne→ku5,getElem?_take_of_lt→ks5,length_append→kq3,mem_of_mem_take→ky1,mem_toArray→kB9,size_toArray→kC0
open Nat renaming le_refl→ks0,mul_one→kJ9,zero_add→kt2
open Option renaming map_some→kt9
namespace Go.Vt
set_option linter.unusedSectionVars false
set_option linter.unusedVariables false
variable [cJ]
variable {P:Program} {w w':World} {μ:Pl} {h:aB} {T:Sl} {a:Act}
theorem zp6 (s:ByteArray):(cT s).length=s.size:=by
 show(s.data.toList.map _).length=s.data.size;rw[List.length_map,kE4]
theorem jp9 (s:ByteArray) (M:Nat→Prop):mY w M 1 (cT s) (Lib.strCells s) where
 len:=by simp[cT,Lib.strCells]
 one v hv:=by
  simp[Lib.strCells]at hv;obtain⟨b,_,rfl⟩:=hv;rfl
 wide i e hi:=by
  simp[cT]at hi;obtain⟨b,_,rfl⟩:=hi;rfl
 cell i j e x hi hj:=by
  simp only[cT,ks1,Option.map_eq_some_iff]at hi;obtain⟨b,hb,rfl⟩:=hi;cases j with
  |succ j=>simp at hj
  |zero=>
   simp at hj;subst hj;exact⟨.int .u8 b.toNat,by simp only[Lib.strCells,kJ9,Nat.add_zero,ks1,hb,kt9],.int _ _⟩
theorem jq0 {e:TypeId} (hb:zd1 P e=true):∃i,P.info? e=some i∧i.size=1∧i.bytes=1∧i.zero=some (.int .u8 0):=by
 unfold zd1 at hb;split at hb
 ·rename_i i hi;simp only[ks2,beq_iff_eq]at hb;obtain⟨⟨h1,h2⟩,h3⟩:=hb;split at h3
  ·rename_i hz;exact⟨i,hi,h1,h2,hz⟩
  ·cases h3
 ·cases hb
theorem zp7 (n:Nat):∀v∈Builtin.zeroCells (Value.int .u8 0).cells n,v.oneCell'=true:=zd2 (by simp[Value.cells];rfl) n
theorem jq1 {t u ty:TypeId} (H:aR w μ h) {ls l:L} {s:ByteArray} {sv:Value} {h':aB} (hs:aY w μ h ls sv) (ha:uX P h t u ls s=some (l,h')) :
  ∃v' w' μ',(Builtin.append_ #[t,u] ty #[sv,.string s]).run P w = .ok v' w'∧aR w' μ' h'∧aY w' μ' h' l v'∧v'.oneCell'=true∧Good w μ h w' μ' h':=by
 unfold uX at ha;split at ha
 ·rename_i e ht hu;split at ha
  ·rename_i hc;obtain⟨hb,hpos⟩:=hc;obtain⟨i,hi,hs1,hby,hz⟩:=jq0 hb;have hnl:(Lib.strCells s).length=s.size:=Lib.strCells_length s;have hsl:=zp6 s;have hnews:mY w (Mut μ h) 1 (cT s) (Lib.strCells s):=jp9 s _;split at ha
   ·-- nil
    split at ha
    ·rename_i hmax;cases ha;cases hs;simp only[aV]at hmax;have hrun:=run_append_nil_string (P:=P) w t u ty e i _ ht hu hi hz s hpos (by omega) (by rw[hby];omega);have hge:=grownCap_ge w s.size 0 e;have Hd:=H.drew;have gd:=Good.drew w μ h;have hcs:(s.data.map (fun b=>Value.int .u8 b.toNat))=(Lib.strCells s).toArray:=by
      apply kv9.1;simp[Lib.strCells]
     rw[hcs]at hrun;generalize hcs':(Lib.strCells s).toArray++Builtin.zeroCells (Value.int .u8 0).cells (grownCap w s.size 0 e-s.size)=cs' at hrun;have hsz:cs'.size=grownCap w s.size 0 e:=by
      rw[←hcs'];simp only[kB7,kC0,hnl,size_zeroCells];show s.size+_*1=_;omega
     have hone:∀v∈cs',v.oneCell'=true:=by
      intro v hv;rw[←hcs']at hv;simp only[kD1,kB9]at hv;rcases hv with hv|hv
      ·exact hnews.one v hv
      ·exact zp7 _ v hv
     have hcell:∀(i j:Nat) (el:List D) (x:D),(cT s)[i]?=some el→el[j]?=some x→∃v,cs'[i*1+j]?=some v∧cM w (Mut μ h) x v:=by
      intro i j el x hi hj;obtain⟨v,a1,a2⟩:=hnews.cell i j el x hi hj;refine⟨v,?_,a2⟩;have:=(kp9.1 a1).1;rw[←hcs',kw2 (by simpa using this)];simpa using a1
     have hheap:(w.drew.alloc (.cells cs' e)).heap[w.heap.size]?=some (.cells cs' e (0,0)):=heap_alloc_new w.drew _;refine⟨_,_,_,hrun,Hd.push (o:=.ar (some e) false 1 0 (cT s)) ⟨by omega,hone,hnews.wide,fun i j el x hi hj=>let ⟨v,a,b⟩:=hcell i j el x hi hj;⟨v,a,b.good gd⟩⟩ ⟨cs'.size,?_⟩,?_,rfl,gd.trans (Good.push _ _ _ _ _)⟩
     ·show World.shape? _ _=_;have:(w.drew.alloc (.cells cs' e)).heap[w.drew.heap.size]?=some (.cells cs' e (0,0)):=hheap;simp only[World.shape?,this]
     ·exact .own (ty:=some e) (fz:=false) (sz:=1) (xs:=cT s) (by simp) (by omega) (ko3 _ _ _) hge hheap (by omega)
    ·cases ha
   ·-- own
    rename_i id ver len;split at ha
    ·rename_i e' sz ver' xs hid;split at ha
     ·rename_i hcnd;obtain⟨rfl,rfl,rfl,hmax⟩:=hcnd;cases ha;simp only[aV]at hmax;have hidl:=(kp9.1 hid).1;have hget:(h.set id (.ar (some e') false 1 (ver'+1) (xs.take len++cT s)))[id]?=some (.ar (some e') false 1 (ver'+1) (xs.take len++cT s)):=by simp[hidl]
      cases hs with
      |ownOld hid' hv=>rw[hid]at hid';cases hid';omega
      |ownDead hid'=>rw[hid]at hid';cases hid'
      |ownNil hid' hμ=>
       have hrun:=run_append_nil_string (P:=P) w t u ty e' i _ ht hu hi hz s hpos (by omega) (by rw[hby];omega);have hge:=grownCap_ge w s.size 0 e';have hcs:(s.data.map (fun b=>Value.int .u8 b.toNat))=(Lib.strCells s).toArray:=by
        apply kv9.1;simp[Lib.strCells]
       rw[hcs]at hrun;generalize hcs':(Lib.strCells s).toArray++Builtin.zeroCells (Value.int .u8 0).cells (grownCap w s.size 0 e'-s.size)=cs' at hrun;have hsz:cs'.size=grownCap w s.size 0 e':=by
        rw[←hcs'];simp only[kB7,kC0,hnl,size_zeroCells];show s.size+_*1=_;omega
       have hone:∀v∈cs',v.oneCell'=true:=by
        intro v hv;rw[←hcs']at hv;simp only[kD1,kB9]at hv;rcases hv with hv|hv
        ·exact hnews.one v hv
        ·exact zp7 _ v hv
       have hheap:(w.drew.alloc (.cells cs' e')).heap[w.heap.size]?=some (.cells cs' e' (0,0)):=heap_alloc_new w.drew _;have B:rD w μ id (w.drew.alloc (.cells cs' e')) (μ.put id (some w.heap.size)):=
        ⟨rfl,rfl,rfl,by simp,fun b hb _=>Go.RowKit.Below.heap_alloc w.drew _ b hb,fun b c T fr hb=>⟨c,_,(Go.RowKit.Below.heap_alloc w.drew _ b (kt0.1 hb).1).trans hb,rfl⟩,fun k hk=>ko4 _ _ _ _ hk,rfl,fun b hb=>by rw[ko3]at hb;cases hb;exact .inr (ks0 _)⟩
       have hx0:xs.take 0++cT s=cT s:=by simp
       rw[hx0]at hget ⊢;refine⟨_,_,_,hrun,H.bump B hid (.inr ⟨w.heap.size,cs',e',ko3 _ _ _,hheap,by omega,hone,hnews.wide,?_⟩) ?_,?_,rfl,ko7 B hid⟩
       ·intro i j el x hi hj;obtain⟨v,a1,a2⟩:=hnews.cell i j el x hi hj;refine⟨v,?_,a2⟩;have:=(kp9.1 a1).1;rw[←hcs',kw2 (by simpa using this)];simpa using a1
       ·intro b hb;rw[ko3]at hb;cases hb;exact⟨cs'.size,by simp only[World.shape?,hheap]⟩
       ·rw[kt2];exact .own hget (by omega) (ko3 _ _ _) hge hheap (by omega)
      |@own _ _ _ _ _ _ _ _ b0 cap0 cs0 T0 hid' hl hμ hcap hb0 hcs=>
       rw[hid]at hid';cases hid';rcases H.arr _ _ _ _ _ hid with⟨hn',_⟩|⟨b,cs,T,q1,q2,q3,q4,q5,q6⟩
       ·rw[hμ]at hn';cases hn'
       rw[hμ]at q1;cases q1;rw[hb0]at q2;cases q2;obtain⟨n0,hn0⟩:=H.ty _ _ _ hid hμ;have hT:T0=e':=by
        unfold World.shape? at hn0;rw[hb0]at hn0;cases hn0;rfl
       subst hT;rw[kJ9]at hcs q3;have hlen0:(xs.take len).length=len:=by simp;omega
       have hgetx:∀{i:Nat} {el:List D},(xs.take len)[i]?=some el→xs[i]?=some el:=by
        intro i el hi;have:i<len:=by have:=(kp9.1 hi).1;omega
        rwa [ks5 this]at hi
       have hrows:mY w (Mut μ h) 1 (xs.take len) (cs0.toList.take len):=by
        refine⟨by simp[hlen0];omega,fun v hv=>q4 v (by simpa using ky1 hv),fun i el hi=>q5 i el (hgetx hi),fun i j el x hi hj=>?_⟩;obtain⟨v,a1,a2⟩:=q6 i j el x (hgetx hi) hj;refine⟨v,?_,a2⟩;have hil:i<len:=by have:=(kp9.1 hi).1;omega
        have hjl:j<1:=by have:=(kp9.1 hj).1;rw[q5 i el (hgetx hi)]at this;exact this
        rw[ks5 (by omega)];simpa using a1
       have hra:=hrows.append hnews;have hral:(cs0.toList.take len++Lib.strCells s).length=len+s.size:=by simp[hnl];omega
       by_cases hroom:len+s.size≤cap0
       ·-- in place
        have hrun:=Lib.run_append_room_string (P:=P) w t u ty T0 i ht hu hi hs1 b0 len cap0 cs0 hb0 s hroom (by omega);generalize hcs':(cs0.toList.take len++Lib.strCells s++cs0.toList.drop (len+s.size)).toArray=cs' at hrun;have hsz':cs'.size=cs0.size:=by rw[←hcs'];simp[hnl];omega
        have hrow:(w.setRow b0 cs').heap[b0]?=some (.cells cs' T0 (0,0)):=by simp[World.setRow,kz1,hb0]
        have hoth:∀b,b≠b0→(w.setRow b0 cs').heap[b]?=w.heap[b]?:=by
         intro b hb;simp[World.setRow,kz1,Ne.symm hb]
        have B:rD w μ id (w.setRow b0 cs') μ:=⟨rfl,rfl,rfl,by simp[World.setRow],fun b hb' hne=>hoth b (fun e=>hne (e▸hμ)),fun b c T fr hb'=>by
          by_cases e:b=b0
          ·subst e;rw[hb0]at hb';cases hb';exact⟨cs',_,hrow,hsz'⟩
          ·exact⟨c,_,(hoth b e).trans hb',rfl⟩,fun _ _=>rfl,rfl,fun b hb'=>.inl hb'⟩
        have hcg:∀k,k<len+s.size→cs'[k]?=(cs0.toList.take len++Lib.strCells s)[k]?:=by
         intro k hk;rw[←hcs'];simp only[List.getElem?_toArray];rw[List.getElem?_append_left (by omega)]
        refine⟨_,_,μ,hrun,H.bump B hid (.inr ⟨b0,cs',T0,hμ,hrow,?_,?_,hra.wide,?_⟩) ?_,?_,rfl,ko7 B hid⟩
        ·rw[hsz',kq3,hlen0,hsl];omega
        ·intro v hv;rw[←hcs']at hv;simp only[kB9,List.mem_append]at hv;rcases hv with(hv|hv)|hv
         ·exact q4 v (by simpa using ky1 hv)
         ·exact hnews.one v hv
         ·exact q4 v (by simpa using List.mem_of_mem_drop hv)
        ·intro i j el x hi hj;obtain⟨v,a1,a2⟩:=hra.cell i j el x hi hj;refine⟨v,?_,a2⟩;rw[hcg _ (by have:=(kp9.1 a1).1;omega)];exact a1
        ·intro b hb;rw[hμ]at hb;cases hb;exact⟨cs'.size,by simp only[World.shape?,hrow]⟩
        ·exact .own hget (by rw[kq3,hlen0,hsl];omega) hμ hroom hrow (by omega)
       ·-- grown
        have hrun:=Lib.run_append_grow_string (P:=P) w t u ty T0 i _ ht hu hi hz ⟨b0,0,none⟩ len cap0 (cs0.toList.take len) (by rw[hs1];simp;omega) (fun j v hv=>by
         have hj:j<len:=by have:=(kp9.1 hv).1;simp at this;omega
         rw[ks5 hj]at hv;rw[gW,kt2,pI hb0];simpa using hv) s (by omega) (by omega) (zp2 (by omega) (by rw[hby];simp only[aV];omega))
        have hge:=grownCap_ge w (len+s.size) cap0 T0;generalize hcs':(cs0.toList.take len).toArray++(Lib.strCells s).toArray++Builtin.zeroCells (Value.int .u8 0).cells (grownCap w (len+s.size) cap0 T0-(len+s.size))=cs' at hrun;have hsz':cs'.size=grownCap w (len+s.size) cap0 T0:=by
         rw[←hcs'];simp only[kB7,kC0,hnl,size_zeroCells,List.length_take,kE4];show min len cs0.size+s.size+_*1=_;omega
        have hone:∀v∈cs',v.oneCell'=true:=by
         intro v hv;rw[←hcs']at hv;simp only[kD1,kB9]at hv;rcases hv with(hv|hv)|hv
         ·exact q4 v (by simpa using ky1 hv)
         ·exact hnews.one v hv
         ·exact zp7 _ v hv
        have hcg:∀k,k<len+s.size→cs'[k]?=(cs0.toList.take len++Lib.strCells s)[k]?:=by
         intro k hk;rw[←hcs',kw2 (by simp[hnl];omega)];simp
        have hheap:(w.drew.alloc (.cells cs' T0)).heap[w.heap.size]?=some (.cells cs' T0 (0,0)):=heap_alloc_new w.drew _;have B:rD w μ id (w.drew.alloc (.cells cs' T0)) (μ.put id (some w.heap.size)):=
         ⟨rfl,rfl,rfl,by simp,fun b hb _=>Go.RowKit.Below.heap_alloc w.drew _ b hb,fun b c T fr hb=>⟨c,_,(Go.RowKit.Below.heap_alloc w.drew _ b (kt0.1 hb).1).trans hb,rfl⟩,fun k hk=>ko4 _ _ _ _ hk,rfl,fun b hb=>by rw[ko3]at hb;cases hb;exact .inr (ks0 _)⟩
        refine⟨_,_,_,hrun,H.bump B hid (.inr ⟨w.heap.size,cs',T0,ko3 _ _ _,hheap,?_,hone,hra.wide,?_⟩) ?_,?_,rfl,ko7 B hid⟩
        ·rw[kq3,hlen0,hsl];omega
        ·intro i j el x hi hj;obtain⟨v,a1,a2⟩:=hra.cell i j el x hi hj;refine⟨v,?_,a2⟩;rw[hcg _ (by have:=(kp9.1 a1).1;omega)];exact a1
        ·intro b hb;rw[ko3]at hb;cases hb;exact⟨cs'.size,by simp only[World.shape?,hheap]⟩
        ·exact .own hget (by rw[kq3,hlen0,hsl];omega) (ko3 _ _ _) hge hheap (by omega)
     ·cases ha
    ·cases ha
   ·cases ha
  ·cases ha
 ·cases ha
theorem jq2 {ts:Array TypeId} {ty:TypeId} {l l':L} {v:Value} (H:aR w μ h) (hl:aY w μ h l v) (hd:uY h l=some l') :
  ∃v',(Builtin.unsafeSliceData_ ts ty #[v]).run P w = .ok v' w∧aY w μ h l' v'∧v'.oneCell'=true:=by
 unfold uY at hd;split at hd
 ·cases hd;cases hl;exact⟨_,rfl,.d .nilp,rfl⟩
 ·rename_i id ver n;split at hd
  ·rename_i ty' fz sz ver' xs hid;split at hd
   ·rename_i e;subst e;cases hd;cases hl with
    |@own _ _ _ _ _ _ _ _ b cap cs T hid' hl hμ hcap hb hcs=>
     rw[hid]at hid';cases hid';refine⟨_,Lib.run_unsafeSliceData_row w ts ty _ _ _ (by omega),?_,rfl⟩;have:=aY.ept (w:=w) (j:=0) hid (by omega:0<xs.length) (Nat.zero_le _) hμ;simpa using this
    |ownOld hid' hv=>rw[hid]at hid';cases hid';omega
    |ownDead hid'=>rw[hid]at hid';cases hid'
   ·cases hd
  ·cases hd
 ·cases hd
theorem Good.kill {id b:Nat} {o:aI} (hid:h[id]?=some o) (hl:o.live=true) (hμ:μ id=some b) (os:w'.os=w.os) (tape:w'.tape=w.tape) (output:w'.output=w.output) (size:w'.heap.size=w.heap.size)
  (block:∀c,c≠b→w'.heap[c]?=w.heap[c]?) (shape:∀(b:Nat) (cs:Array Value) (T:TypeId) (fr:Nat×Nat),w.heap[b]?=some (Obj.cells cs T fr)→∃(cs':Array Value) (fr':Nat×Nat),w'.heap[b]?=some (Obj.cells cs' T fr')∧cs'.size=cs.size) :
  Good w μ h w' μ (h.set id .dead):=by
 have hlt:=(kp9.1 hid).1;have hdead:(h.set id .dead)[id]?=some .dead:=by simp[hlt]
 exact {
  os:=os,tape:=tape,output:=output,size:=Nat.le_of_eq size.symm,out:=rfl
  block:=fun c hc hn=>block c (fun e=>hn ⟨id,o,hid,hl,e▸hμ⟩)
  shape:=shape
  fresh:=fun c hc=>by
   obtain⟨k,o',h1,h2,h3⟩:=hc;rcases iH h1 with⟨_,e⟩|⟨hne,h1⟩
   ·subst e;cases h2
   ·exact .inl ⟨k,o',h1,h2,h3⟩
  len:=by simp
  boxes:=fun k ty cells hk=>by
   by_cases e:k=id
   ·subst e;exact .inl hdead
   ·exact .inr ⟨cells,ty,by rw[ku5 (Ne.symm e)];exact hk,rfl,rfl⟩
  arrs:=fun k ty fz sz ver xs hk=>by
   by_cases e:k=id
   ·subst e;exact .inl hdead
   ·exact .inr ⟨fz,sz,ver,xs,ty,by rw[ku5 (Ne.symm e)];exact hk,.inl ⟨rfl,rfl,rfl,rfl⟩⟩
  deads:=fun k hk=>by
   by_cases e:k=id
   ·subst e;exact hdead
   ·rw[ku5 (Ne.symm e)];exact hk }
theorem aR.kill {id b:Nat} {o:aI} (H:aR w μ h) (hid:h[id]?=some o) (hl:o.live=true) (hμ:μ id=some b) (g:Good w μ h w' μ (h.set id .dead)) (block:∀c,c≠b→w'.heap[c]?=w.heap[c]?):aR w' μ (h.set id .dead):=by
 have same:∀{k c:Nat} {o':aI},h[k]?=some o'→o'.there=true→k≠id→μ k=some c→w'.heap[c]?=w.heap[c]?:=by
  intro k c o' ho ht hne hm;refine block c (fun e=>hne ?_);subst e;exact(H.apart _ _ _ _ _ hid ho hl ht hμ hm).symm
 refine⟨?_,?_,?_,?_,fun b hb=>Nat.lt_of_lt_of_le (H.old b hb) g.size,fun i o' c hi hc=>?_,H.tabs g⟩
 ·intro k ty cells hk;rcases iH hk with⟨_,e⟩|⟨hne,hk⟩
  ·cases e
  ·obtain⟨c,cs,T,h1,h2,h3,h4,h5⟩:=H.box _ _ hk;exact⟨c,cs,T,h1,(same hk rfl hne h1).trans h2,h3,h4,fun j l v hj hv=>(h5 j l v hj hv).good g⟩
 ·intro k ty fz sz ver xs hk;rcases iH hk with⟨_,e⟩|⟨hne,hk⟩
  ·cases e
  ·rcases H.arr _ _ _ _ _ hk with hn|⟨c,cs,T,h1,h2,h3,h4,h5,h6⟩
   ·exact .inl hn
   ·exact .inr ⟨c,cs,T,h1,(same hk rfl hne h1).trans h2,h3,h4,h5,fun i j e x hi hj=>let ⟨v,a,d⟩:=h6 i j e x hi hj;⟨v,a,d.good g⟩⟩
 ·intro i j o1 o2 c hi hj t1 t2 m1 m2;rcases iH hi with⟨_,e⟩|⟨hne,hi⟩
  ·subst e;cases t1
  ·rcases iH hj with⟨_,e⟩|⟨hne',hj⟩
   ·subst e;cases t2
   ·exact H.apart _ _ _ _ c hi hj t1 t2 m1 m2
 ·intro i o1 c hi t1 m1;rcases iH hi with⟨_,e⟩|⟨hne,hi⟩
  ·subst e;cases t1
  ·exact H.off _ _ _ hi t1 m1
 ·rcases iH hi with⟨_,e⟩|⟨hne,hi⟩
  ·subst e;trivial
  ·exact(H.ty _ _ _ hi hc).good g
theorem jq3 {pt it ty:TypeId} {l:L} {n:Int} {p:Value} {v:V} {h':aB} (H:aR w μ h) (hl:aY w μ h l p) (hd:uZ P h pt l n=some (v,h')) :
  ∃v' w',(Builtin.unsafeString_ #[pt,it] ty #[p,.int .i64 n]).run P w = .ok v' w'∧aR w' μ h'∧aZ w' μ h' v v'∧Good w μ h w' μ h':=by
 unfold uZ at hd;split at hd
 ·cases hd;cases hl with|d hx=>
  cases hx;exact⟨_,w,Lib.run_unsafeString_none w pt it ty none,H,.one rfl (.d (.str _)),kn9 _ _ _⟩
 ·rename_i id ver k;split at hd
  ·rename_i e ver' xs e' hid hu;split at hd
   ·rename_i hc;obtain⟨rfl,rfl,hc1,hk,hmax⟩:=hc;simp only[aV]at hmax;split at hd
    ·rename_i bs hbs;cases hd;obtain⟨r1,r2⟩:=zm7 hbs;have hbl:bs.length=k+1:=by rw[r1];simp;omega
     cases hl with
     |eptOld hid' hv=>rw[hid]at hid';cases hid';omega
     |eptDead hid'=>rw[hid]at hid';cases hid'
     |@ept _ _ _ _ _ _ _ _ b hid' hi hj hμ=>
     rw[hid]at hid';cases hid';rcases H.arr _ _ _ _ _ hid with⟨hn',_⟩|⟨b',cs,T,q1,q2,q3,q4,q5,q6⟩
     ·rw[hμ]at hn';cases hn'
     rw[hμ]at q1;cases q1;obtain⟨n0,hn0⟩:=H.ty _ _ _ hid hμ;have hsh:w.shape? b=some (e',cs.size):=by
      unfold World.shape? at hn0 ⊢;rw[q2]at hn0 ⊢;cases hn0;rfl
     have hcell:∀(j:Nat) (x:UInt8),bs[j]?=some x→w.cell? ((⟨b,0,none⟩:Addr).add j)=some (.int .u8 x.toNat):=by
      intro j x hj;have h1:=r2 j x hj;have hjl:j<k+1:=by have:=(kp9.1 hj).1;omega
      rw[ks5 hjl]at h1;obtain⟨u,hu1,hu2⟩:=q6 j 0 _ _ h1 rfl;cases hu2;rw[gW,kt2,pI q2];simpa using hu1
     have hrun:=Lib.run_unsafeString_row (P:=P) w pt it ty e' hu hc1 b cs.size hsh bs (by intro e;rw[e]at hbl;simp at hbl) (by omega) (by omega) hcell;have hblk:∀c,c≠b→(w.freeze ⟨b,0,none⟩ bs.length).heap[c]?=w.heap[c]?:=by
      intro c hc;unfold World.freeze;rw[if_neg (by omega)];simp[kz1,Ne.symm hc]
     have hshp:∀(b0:Nat) (cs:Array Value) (T:TypeId) (fr:Nat×Nat),w.heap[b0]?=some (Obj.cells cs T fr)→∃(cs':Array Value) (fr':Nat×Nat),(w.freeze ⟨b,0,none⟩ bs.length).heap[b0]?=some (Obj.cells cs' T fr')∧cs'.size=cs.size:=by
      intro b0 cs T fr hb0;unfold World.freeze;rw[if_neg (by omega)];by_cases e:b=b0
      ·subst e;simp only[kz1,if_true,hb0,kt9];exact⟨_,_,rfl,rfl⟩
      ·simp only[kz1,if_neg e,hb0];exact⟨_,_,rfl,rfl⟩
     have g:Good w μ h (w.freeze ⟨b,0,none⟩ bs.length) μ (h.set id .dead):=Good.kill hid rfl hμ (by unfold World.freeze;split<;>rfl) (by unfold World.freeze;split<;>rfl) (by unfold World.freeze;split<;>rfl) (by unfold World.freeze;split<;>simp) hblk hshp;refine⟨_,_,?_,H.kill hid rfl hμ g hblk,.one rfl (.d (.str ⟨bs.toArray⟩)),g⟩;have e1:(0*1+0:Nat)=0:=rfl;have e2:(Int.ofNat (k+1))=((bs.length:Nat):Int):=by rw[hbl];rfl
     rw[e2];exact hrun
    ·cases hd
   ·cases hd
  ·cases hd
 ·cases hd
theorem jq4 {f:FuncId} (hf:mX P f=true) (x:Value):(callFunc f #[x]).run P w = .ok (.value x) w:=by
 unfold mX at hf;split at hf
 ·rename_i fn hfn;simp only[ks2,beq_iff_eq]at hf;obtain⟨⟨h1,h2⟩,h3⟩:=hf;have e1:Extern.allNextRows.lookup "internal/abi.NoEscape" = none:=by kernel_rfl
  have e2:Extern.allNextRows.lookup "" = none:=by kernel_rfl
  have e3:Extern.allGenericRows.lookup "internal/abi.NoEscape" = none:=by kernel_rfl
  have e4:Extern.allTypedRows.lookup "internal/abi.NoEscape" = none:=by kernel_rfl
  have e5:Extern.allRows.lookup "internal/abi.NoEscape" = some Extern.AbiNoEscape.same:=by kernel_rfl
  rw[run_callFunc_extern hfn (by rw[h1];rfl) h2 (by simp[Extern.findNext,h1,h3,e1,e2]) (by simp only[Extern.find,h1,e3,e4,e5];rfl)];rfl
 ·cases hf
end Go.Vt
