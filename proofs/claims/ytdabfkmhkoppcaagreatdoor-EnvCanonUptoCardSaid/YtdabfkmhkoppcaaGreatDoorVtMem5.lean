import Derived.Test.YtdabfkmhkoppcaaGreatDoorVtMem3
set_option linter.all false
open Array renaming getElem?_append_left→kw2,mem_append→kD1,size_append→kB7
open List renaming getElem?_append→kB3,getElem?_drop→kv4,getElem?_eq_some_iff→kp9,getElem?_take_of_lt→ks5,mem_of_mem_take→ky1,mem_toArray→kB9,size_toArray→kC0
open Nat renaming zero_add→kt2
namespace Go.Vt
set_option linter.unusedSectionVars false
set_option linter.unusedVariables false
variable [cJ]
variable {P:Program} {w w':World} {μ:Pl} {h:aB} {T:Sl} {a:Act}
theorem rE {h:aB} {id k:Nat} {o o':aI} (hid:id<h.length) (hk:(h.set id .dead++[o])[k]?=some o'):(k=id∧o' = .dead)∨(k≠id∧k<h.length∧h[k]?=some o')∨(k=h.length∧o'=o):=by
 rcases kS hk with⟨hlt,hk⟩|⟨e1,e2⟩
 ·rcases iH hk with⟨e1,e2⟩|⟨hne,hk⟩
  ·exact .inl ⟨e1,e2⟩
  ·exact .inr (.inl ⟨hne,by simpa using hlt,hk⟩)
 ·exact .inr (.inr ⟨by simpa using e1,e2⟩)
structure xL (w:World) (μ:Pl) (id b:Nat) (w':World):Prop where
 os:w'.os=w.os
 tape:w'.tape=w.tape
 output:w'.output=w.output
 size:w.heap.size≤w'.heap.size
 block:∀c,c<w.heap.size→μ id≠some c→w'.heap[c]?=w.heap[c]?
 shape:∀(b:Nat) (cs:Array Value) (T:TypeId) (fr:Nat×Nat),w.heap[b]?=some (Obj.cells cs T fr)→∃(cs':Array Value) (fr':Nat×Nat),w'.heap[b]?=some (Obj.cells cs' T fr')∧cs'.size=cs.size
 at_:μ id=some b∨w.heap.size≤b
theorem kp0 {id b:Nat} {cells:List L} {o:aI} (B:xL w μ id b w') (hid:h[id]?=some (.box cells)):Good w μ h w' (μ.put h.length (some b)) (h.set id .dead++[o]):=by
 have hlt:=(kp9.1 hid).1;have hold:∀{k:Nat} {o':aI},h[k]?=some o'→k≠id→(h.set id .dead++[o])[k]?=some o':=by
  intro k o' hk hne;exact nU o (by rw[List.getElem?_set_ne (Ne.symm hne)];exact hk)
 have hdead:(h.set id .dead++[o])[id]?=some .dead:=nU o (by simp[hlt]);exact {
  os:=B.os,tape:=B.tape,output:=B.output,size:=B.size,out:=rfl
  block:=fun c hc hn=>B.block c hc (fun e=>hn ⟨id,_,hid,rfl,e⟩)
  shape:=B.shape
  fresh:=fun c hc=>by
   obtain⟨k,o',h1,h2,h3⟩:=hc;rcases rE hlt h1 with⟨_,e⟩|⟨hne,hk,h1⟩|⟨rfl,_⟩
   ·subst e;cases h2
   ·rw[ko4 _ _ _ _ (by omega)]at h3;exact .inl ⟨k,o',h1,h2,h3⟩
   ·rw[ko3]at h3;cases h3;rcases B.at_ with e|e
    ·exact .inl ⟨id,_,hid,rfl,e⟩
    ·exact .inr e
  len:=by simp
  boxes:=fun k ty cells' hk=>by
   by_cases e:k=id
   ·subst e;exact .inl hdead
   ·exact .inr ⟨cells',ty,hold hk e,rfl,ko4 _ _ _ _ (by have:=(kp9.1 hk).1;omega)⟩
  arrs:=fun k ty fz sz ver xs hk=>by
   have e:k≠id:=by rintro rfl;rw[hid]at hk;cases hk
   exact .inr ⟨fz,sz,ver,xs,ty,hold hk e,.inl ⟨rfl,rfl,rfl,ko4 _ _ _ _ (by have:=(kp9.1 hk).1;omega)⟩⟩
  deads:=fun k hk=>by
   have e:k≠id:=by rintro rfl;rw[hid]at hk;cases hk
   exact hold hk e }
theorem aR.moved {id b:Nat} {cells cells':List L} {cs:Array Value} {U:TypeId} (H:aR w μ h) (B:xL w μ id b w') (hid:h[id]?=some (.box cells)) (hrow:w'.heap[b]?=some (.cells cs U (0,0)))
  (hlen:cells'.length≤cs.size) (hone:∀v∈cs,v.oneCell'=true) (hc:∀(j:Nat) (l:L) (v:Value),cells'[j]?=some l→cs[j]?=some v→aY w μ h l v):aR w' (μ.put h.length (some b)) (h.set id .dead++[.box cells']):=by
 have g:Good w μ h w' (μ.put h.length (some b)) (h.set id .dead++[.box cells']):=kp0 B hid;have hlt:=(kp9.1 hid).1;have same:∀{k c:Nat} {o:aI},h[k]?=some o→o.there=true→k≠id→μ k=some c→w'.heap[c]?=w.heap[c]?:=by
  intro k c o ho ht hne hm;refine B.block c (H.blockLt ho ht hm) (fun e=>hne ?_);exact(H.apart _ _ _ _ _ hid ho rfl ht e hm).symm
 refine⟨?_,?_,?_,?_,?_,fun i o c hi m1=>by
  rcases rE hlt hi with⟨_,e⟩|⟨hne,hil,hi1⟩|⟨_,e⟩
  ·subst e;trivial
  ·rw[ko4 _ _ _ _ (by omega)]at m1;exact(H.ty _ _ _ hi1 m1).good g
  ·subst e;trivial,H.tabs g⟩
 ·intro k ty ks hk;rcases rE hlt hk with⟨_,e⟩|⟨hne,hkl,hk⟩|⟨rfl,e⟩
  ·cases e
  ·obtain⟨c,cs0,T,h1,h2,h3,h4,h5⟩:=H.box _ _ hk;exact⟨c,cs0,T,by rw[ko4 _ _ _ _ (by omega)];exact h1,(same hk rfl hne h1).trans h2,h3,h4,fun j l v hj hv=>(h5 j l v hj hv).good g⟩
  ·cases e;exact⟨b,cs,U,ko3 _ _ _,hrow,hlen,hone,fun j l v hj hv=>(hc j l v hj hv).good g⟩
 ·intro k ty fz sz ver xs hk;rcases rE hlt hk with⟨_,e⟩|⟨hne,hkl,hk⟩|⟨_,e⟩
  ·cases e
  ·rw[ko4 _ _ _ _ (by omega)];rcases H.arr _ _ _ _ _ hk with hn|⟨c,cs0,T,h1,h2,h3,h4,h5,h6⟩
   ·exact .inl hn
   ·exact .inr ⟨c,cs0,T,h1,(same hk rfl hne h1).trans h2,h3,h4,h5,fun i j e x hi hj=>let ⟨v,a,d⟩:=h6 i j e x hi hj;⟨v,a,d.good g⟩⟩
  ·cases e
 ·intro i j o1 o2 c hi hj t1 t2 m1 m2;rcases rE hlt hi with⟨_,e⟩|⟨hne,hil,hi1⟩|⟨e1,_⟩
  ·subst e;cases t1
  ·rw[ko4 _ _ _ _ (by omega)]at m1;rcases rE hlt hj with⟨_,e⟩|⟨hne',hjl,hj1⟩|⟨e2,_⟩
   ·subst e;cases t2
   ·rw[ko4 _ _ _ _ (by omega)]at m2;exact H.apart _ _ _ _ c hi1 hj1 t1 t2 m1 m2
   ·subst e2;rw[ko3]at m2;cases m2;rcases B.at_ with e|e
    ·exact absurd (H.apart _ _ _ _ _ hi1 hid t1 rfl m1 e) hne
    ·have:=H.blockLt hi1 (kn4 t1) m1;omega
  ·subst e1;rw[ko3]at m1;cases m1;rcases rE hlt hj with⟨_,e⟩|⟨hne',hjl,hj1⟩|⟨e2,_⟩
   ·subst e;cases t2
   ·rw[ko4 _ _ _ _ (by omega)]at m2;rcases B.at_ with e|e
    ·exact absurd (H.apart _ _ _ _ _ hid hj1 rfl t2 e m2).symm hne'
    ·have:=H.blockLt hj1 t2 m2;omega
   ·exact e2.symm
 ·intro i o c hi t1 m1;rcases rE hlt hi with⟨_,e⟩|⟨hne,hil,hi1⟩|⟨e1,_⟩
  ·subst e;cases t1
  ·rw[ko4 _ _ _ _ (by omega)]at m1;exact H.off _ _ _ hi1 t1 m1
  ·subst e1;rw[ko3]at m1;cases m1;rcases B.at_ with e|e
   ·exact H.off _ _ _ hid rfl e
   ·intro hx;have:=H.old _ hx;omega
 ·intro c hx;exact Nat.lt_of_lt_of_le (H.old c hx) B.size
theorem jp7 (H:aR w μ h) {l:L} {ys:List L} {v:Value} (hl:aY w μ h l v) (hr:uW h l=some ys) :
  ∃(ad:Addr) (c:Nat) (news:List Value),v = .slice (some ad) ys.length c∧news.length=ys.length∧(∀u∈news,u.oneCell'=true)∧(∀(j:Nat) (l:L) (u:Value),ys[j]?=some l→news[j]?=some u→aY w μ h l u)∧∀(j:Nat) (u:Value),news[j]?=some u→w.cell? (ad.add j)=some u:=by
 unfold uW at hr;split at hr
 ·rename_i id off n;split at hr
  ·rename_i ty cells hid;split at hr
   ·rename_i hle;cases hr;cases hl with
    |bslDead hd=>rw[hid]at hd;cases hd
    |@bsl _ _ _ _ _ cells' b cap cs T hid' hoff hμ hcap hb hcs=>
     rw[hid]at hid';cases hid';obtain⟨b',cs',T',h1,h2,h3,h4,h5⟩:=H.box _ _ hid;rw[hμ]at h1;cases h1;rw[hb]at h2;cases h2;have hn:((cells.drop off).take n).length=n:=by simp;omega
     refine⟨_,cap,(cs.toList.drop off).take n,by rw[hn],by simp;omega,fun u hu=>h4 u ?_,fun j l u hj hu=>?_,fun j u hu=>?_⟩
     ·have:=List.mem_of_mem_drop (ky1 hu);simpa using this
     ·have hjn:j<n:=by have:=(kp9.1 hj).1;omega
      rw[ks5 hjn,kv4]at hj hu;exact h5 _ _ _ hj (by simpa using hu)
     ·have hjn:j<n:=by have:=(kp9.1 hu).1;simp at this;omega
      rw[ks5 hjn,kv4]at hu;rw[gW,pI hb];simpa using hu
   ·cases hr
  ·cases hr
 ·cases hr
theorem jp8 {t ty:TypeId} {i:TI} {e:EI} (ht:ti P t=some i) (he:i.el=some e) (H:aR w μ h) {ls lx l:L} {ys:List L} {sv xv:Value} {h':aB}
  (hs:aY w μ h ls sv) (hx:aY w μ h lx xv) (hy:uW h lx=some ys) (ha:pM h e ls ys=some (l,h')) :
  ∃v' w' μ',(Builtin.append_ #[t,t] ty #[sv,xv]).run P w = .ok v' w'∧aR w' μ' h'∧aY w' μ' h' l v'∧v'.oneCell'=true∧Good w μ h w' μ' h':=by
 obtain⟨I,d,h1,h2,h3,h4,h5,h6,h7,h8,h9,h10,_⟩:=fE ht;obtain⟨et,rfl⟩:=h10 (by rw[he];rfl);have hE:iU P et=some e:=by rw[←h9 et rfl];exact he
 obtain⟨E,dE,g1,g2,g3,g4,g5,g6⟩:=pH hE;unfold pM at ha;split at ha
 ·rename_i hc;obtain⟨hsz1,hne,hzs⟩:=hc;obtain⟨ad,c,news,rfl,hnl,hn1,hnr,hcells⟩:=jp7 H hx hy;obtain⟨z,zv,hz,hzv,hzsz,hsz0⟩:=zT8 hE g1 hzs;have hz1:=zp1 hzv;have hE1:E.size=1:=by omega
  have hlen:news.length=ys.length*E.size:=by rw[hnl,hE1];omega
  have hpos:0<ys.length:=List.length_pos_iff.2 hne;split at ha
  ·-- nil
   split at ha
   ·rename_i hb;cases ha;cases hs;have hrun:=run_append_nil (P:=P) w t ty et E z h2 g1 hz ad ys.length c news hlen hcells hpos (by have:=hb.2;simp only[aV]at this;omega) (by have:=hb.1;rw[g4]at this;simp only[aV]at this;omega);have hge:=grownCap_ge w ys.length 0 et;have Hd:=H.drew;have gd:=Good.drew w μ h;have hcs:ys.length≤(news.toArray++Builtin.zeroCells z.cells (grownCap w ys.length 0 et-ys.length)).size:=by simp[hnl]
    refine⟨_,_,_,hrun,Hd.push (o:=.box ys) ⟨hcs,?_,?_⟩,?_,rfl,gd.trans (Good.push _ _ _ _ _)⟩
    ·intro v hv;simp only[kD1,kB9]at hv;rcases hv with hv|hv
     ·exact hn1 v hv
     ·exact zd2 hz1 _ v hv
    ·intro j l v hj hv;have hjl:=(kp9.1 hj).1;rw[kw2 (by simp;omega)]at hv;exact(hnr j l v hj (by simpa using hv)).good gd
    ·refine .bsl (ty:=none) (cells:=ys) (by simp) (by omega) (ko3 _ _ _) hge (heap_alloc_new w.drew _) ?_;simp only[kB7,kC0,size_zeroCells,hzsz,hnl,hsz1];omega
   ·cases ha
  ·-- a slice
   rename_i id len;split at ha
   ·rename_i cells hid;split at ha
    ·rename_i hb;obtain⟨hlc,hb1,hb2⟩:=hb;cases ha;have hidl:=(kp9.1 hid).1;have hget:∀o:aI,(h.set id .dead++[o])[h.length]?=some o:=fun o=>by simp
     cases hs with
     |bslDead hd=>rw[hid]at hd;cases hd
     |@bsl _ _ _ _ _ cells0 b0 cap0 cs0 T0 hid' hoff hμ hcap hb0 hcs=>
      rw[hid]at hid';cases hid';obtain⟨b',cs',T',q1,q2,q3,q4,q5⟩:=H.box _ _ hid;rw[hμ]at q1;cases q1;rw[hb0]at q2;cases q2;have hol:(cs0.toList.take len).length=len:=by simp;omega
      have holds:∀(j:Nat) (v:Value),(cs0.toList.take len)[j]?=some v→w.cell? ((⟨b0,0,none⟩:Addr).add j)=some v:=by
       intro j v hv;have hj:j<len:=by have:=(kp9.1 hv).1;omega
       rw[ks5 hj]at hv;rw[gW,kt2,pI hb0];simpa using hv
      have hcl:(cells.take len++ys).length=len+ys.length:=by simp;omega
      have hrep:∀(cs:Array Value),(∀k,k<len+ys.length→cs[k]?=(cs0.toList.take len++news)[k]?)→∀(j:Nat) (l:L) (v:Value),(cells.take len++ys)[j]?=some l→cs[j]?=some v→aY w μ h l v:=by
       intro cs hk j l v hj hv;have hjl:j<len+ys.length:=by have:=(kp9.1 hj).1;omega
       rw[hk j hjl]at hv;rw[kB3]at hj hv;have e1:(cells.take len).length=len:=by simp;omega
       rw[e1]at hj;rw[hol]at hv;split at hj
       ·rename_i hlt;rw[if_pos hlt,ks5 hlt]at hv;rw[ks5 hlt]at hj;exact q5 j l v hj (by simpa using hv)
       ·rename_i hge;rw[if_neg hge]at hv;exact hnr _ _ _ hj hv
      by_cases hroom:len+ys.length≤cap0
      ·-- in place
       obtain⟨w',cs',hst,hrow,hsz',hall⟩:=xF (P:=P) b0 len T0 news 0 cs0 w hb0 (by omega) hn1;simp only[Nat.add_zero]at hall;have hrun:(Builtin.append_ #[t,t] ty #[.slice (some ⟨b0,0,none⟩) len cap0,.slice (some ad) ys.length c]).run P w = .ok (.slice (some ⟨b0,0,none⟩) (len+ys.length) cap0) w':=by
        have hf:=run_firstCells_some (P:=P) w E.size ys.length ad ys.length c news hlen hcells;have hadd:(⟨b0,0,none⟩:Addr).add (len*E.size)=⟨b0,len,none⟩:=by rw[gW,kt2,hE1,Nat.mul_one]
        simp[Builtin.append_,run_underlying h2,sizeOf,typeInfo,g1,Builtin.lenOf,hroom,hf,hadd,hst,Result.andThen]
       have B:xL w μ id b0 w':=⟨hrow.os,hrow.tape,hrow.output,Nat.le_of_eq hrow.size.symm,fun b hb' hne=>hrow.other b (fun e=>hne (e▸hμ)),fun b c T fr hb'=>by
         by_cases e:b=b0
         ·subst e;rw[hb0]at hb';cases hb';exact⟨cs',_,hrow.row,hsz'⟩
         ·exact⟨c,_,(hrow.other b e).trans hb',rfl⟩,.inl hμ⟩
       have hone:∀v∈cs',v.oneCell'=true:=by
        intro u hu;obtain⟨q,hq,rfl⟩:=Array.getElem_of_mem hu;have:=hall q;rw[Array.getElem?_eq_getElem hq]at this;split at this
        ·exact hn1 _ (List.mem_of_getElem? this.symm)
        ·exact q4 _ (Array.mem_of_getElem? this.symm)
       have hk:∀k,k<len+ys.length→cs'[k]?=(cs0.toList.take len++news)[k]?:=by
        intro k hk;rw[hall k,kB3,hol];by_cases c1:k<len
        ·rw[if_neg (by omega),if_pos c1,ks5 c1];simp
        ·rw[if_pos ⟨by omega,by omega⟩,if_neg c1]
       refine⟨_,w',_,hrun,H.moved B hid hrow.row (by rw[hcl,hsz'];omega) hone (hrep cs' hk),?_,rfl,kp0 B hid⟩;exact .bsl (hget _) (by rw[hcl];omega) (ko3 _ _ _) hroom hrow.row (by rw[hsz'];omega)
      ·-- grown
       have hrun:=run_append_grow (P:=P) w t ty et E z h2 g1 hz ⟨b0,0,none⟩ len cap0 (cs0.toList.take len) (by rw[hol,hE1];omega) holds ad ys.length c news hlen hcells (by omega) (by simp only[aV]at hb2;omega) (zp2 (by omega) (by rw[←g4];exact hb1));have hge:=grownCap_ge w (len+ys.length) cap0 et;generalize hcs':(cs0.toList.take len).toArray++news.toArray++Builtin.zeroCells z.cells (grownCap w (len+ys.length) cap0 et-(len+ys.length))=cs' at hrun;have hsize:cs'.size=grownCap w (len+ys.length) cap0 et:=by
        rw[←hcs'];simp only[kB7,kC0,hol,hnl,size_zeroCells,hzsz,hsz1];omega
       have B:xL w μ id w.heap.size (w.drew.alloc (.cells cs' et)):=
        ⟨rfl,rfl,rfl,by simp,fun b hb _=>Go.RowKit.Below.heap_alloc w.drew _ b hb,fun b c T fr hb=>⟨c,_,(Go.RowKit.Below.heap_alloc w.drew _ b (Array.getElem?_eq_some_iff.1 hb).1).trans hb,rfl⟩,.inr (Nat.le_refl _)⟩
       have hheap:(w.drew.alloc (.cells cs' et)).heap[w.heap.size]?=some (.cells cs' et (0,0)):=heap_alloc_new w.drew _;have hone:∀v∈cs',v.oneCell'=true:=by
        intro v hv;rw[←hcs']at hv;simp only[kD1,kB9]at hv;rcases hv with(hv|hv)|hv
        ·exact q4 v (by simpa using ky1 hv)
        ·exact hn1 v hv
        ·exact zd2 hz1 _ v hv
       have hk:∀k,k<len+ys.length→cs'[k]?=(cs0.toList.take len++news)[k]?:=by
        intro k hk;rw[←hcs',kw2 (by simp[hol,hnl];omega)];simp
       refine⟨_,_,_,hrun,H.moved B hid hheap (by rw[hcl,hsize];omega) hone (hrep cs' hk),?_,rfl,kp0 B hid⟩;exact .bsl (hget _) (by rw[hcl];omega) (ko3 _ _ _) hge hheap (by omega)
    ·cases ha
   ·cases ha
  ·cases ha
 ·cases ha
end Go.Vt
