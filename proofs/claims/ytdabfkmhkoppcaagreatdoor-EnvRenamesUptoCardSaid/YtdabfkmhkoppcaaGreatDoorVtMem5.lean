import Derived.Test.YtdabfkmhkoppcaaGreatDoorVtMem3
set_option linter.all false
open Array renaming getElem?_append_left→kk2,mem_append→kq8,size_append→kp2
open List renaming getElem?_append→ko9,getElem?_drop→kj1,getElem?_eq_some_iff→kd6,getElem?_take_of_lt→kg4,mem_of_mem_take→kk1,mem_toArray→kp4,size_toArray→kp5
open Nat renaming zero_add→kh8
namespace Go.Vt
variable {P:Program} {w w':World} {μ:Pl} {h:aB} {T:Sl} {a:Act}
theorem qA {h:aB} {id k:Nat} {o o':aN} (hid:id<h.length) (hk:(h.set id .dead++[o])[k]?=some o'):(k=id∧o' = .dead)∨(k≠id∧k<h.length∧h[k]?=some o')∨(k=h.length∧o'=o):=by
 rcases jW hk with⟨hlt,hk⟩|⟨e1,e2⟩
 ·rcases gK hk with⟨e1,e2⟩|⟨hne,hk⟩
  ·exact .inl ⟨e1,e2⟩
  ·exact .inr (.inl ⟨hne,by simpa using hlt,hk⟩)
 ·exact .inr (.inr ⟨by simpa using e1,e2⟩)
structure vY (w:World) (μ:Pl) (id b:Nat) (w':World):Prop where
 os:w'.os=w.os
 tape:w'.tape=w.tape
 output:w'.output=w.output
 size:w.heap.size≤w'.heap.size
 block:∀c,c<w.heap.size→μ id≠some c→w'.heap[c]?=w.heap[c]?
 shape:∀(b:Nat) (cs:Array Value) (T:TypeId) (fr:Nat×Nat),w.heap[b]?=some (Obj.cells cs T fr)→∃(cs':Array Value) (fr':Nat×Nat),w'.heap[b]?=some (Obj.cells cs' T fr')∧cs'.size=cs.size
 at_:μ id=some b∨w.heap.size≤b
theorem kc8 {id b:Nat} {cells:List L} {o:aN} (B:vY w μ id b w') (hid:h[id]?=some (.box cells)):Good w μ h w' (μ.put h.length (some b)) (h.set id .dead++[o]):=by
 have hlt:=(kd6.1 hid).1;have hold:∀{k:Nat} {o':aN},h[k]?=some o'→k≠id→(h.set id .dead++[o])[k]?=some o':=by
  intro k o' hk hne;exact nS o (by rw[List.getElem?_set_ne (Ne.symm hne)];exact hk)
 have hdead:(h.set id .dead++[o])[id]?=some .dead:=nS o (by simp[hlt]);exact {
  os:=B.os,tape:=B.tape,output:=B.output,size:=B.size,out:=rfl
  block:=fun c hc hn=>B.block c hc (fun e=>hn ⟨id,_,hid,rfl,e⟩)
  shape:=B.shape
  fresh:=fun c hc=>by
   obtain⟨k,o',h1,h2,h3⟩:=hc;rcases qA hlt h1 with⟨_,e⟩|⟨hne,hk,h1⟩|⟨rfl,_⟩
   ·subst e;cases h2
   ·rw[kc2 _ _ _ _ (by omega)]at h3;exact .inl ⟨k,o',h1,h2,h3⟩
   ·rw[kc1]at h3;cases h3;rcases B.at_ with e|e
    ·exact .inl ⟨id,_,hid,rfl,e⟩
    ·exact .inr e
  len:=by simp
  boxes:=fun k ty cells' hk=>by
   by_cases e:k=id
   ·subst e;exact .inl hdead
   ·exact .inr ⟨cells',ty,hold hk e,rfl,kc2 _ _ _ _ (by have:=(kd6.1 hk).1;omega)⟩
  arrs:=fun k ty fz sz ver xs hk=>by
   have e:k≠id:=by rintro rfl;rw[hid]at hk;cases hk
   exact .inr ⟨fz,sz,ver,xs,ty,hold hk e,.inl ⟨rfl,rfl,rfl,kc2 _ _ _ _ (by have:=(kd6.1 hk).1;omega)⟩⟩
  deads:=fun k hk=>by
   have e:k≠id:=by rintro rfl;rw[hid]at hk;cases hk
   exact hold hk e }
theorem aW.moved {id b:Nat} {cells cells':List L} {cs:Array Value} {U:TypeId} (H:aW w μ h) (B:vY w μ id b w') (hid:h[id]?=some (.box cells)) (hrow:w'.heap[b]?=some (.cells cs U (0,0)))
  (hlen:cells'.length≤cs.size) (hone:∀v∈cs,v.oneCell'=true) (hc:∀(j:Nat) (l:L) (v:Value),cells'[j]?=some l→cs[j]?=some v→bE w μ h l v):aW w' (μ.put h.length (some b)) (h.set id .dead++[.box cells']):=by
 have g:Good w μ h w' (μ.put h.length (some b)) (h.set id .dead++[.box cells']):=kc8 B hid;have hlt:=(kd6.1 hid).1;have same:∀{k c:Nat} {o:aN},h[k]?=some o→o.there=true→k≠id→μ k=some c→w'.heap[c]?=w.heap[c]?:=by
  intro k c o ho ht hne hm;refine B.block c (H.blockLt ho ht hm) (fun e=>hne ?_);exact(H.apart _ _ _ _ _ hid ho rfl ht e hm).symm
 refine⟨?_,?_,?_,?_,?_,fun i o c hi m1=>by
  rcases qA hlt hi with⟨_,e⟩|⟨hne,hil,hi1⟩|⟨_,e⟩
  ·subst e;trivial
  ·rw[kc2 _ _ _ _ (by omega)]at m1;exact(H.ty _ _ _ hi1 m1).good g
  ·subst e;trivial⟩
 ·intro k ty ks hk;rcases qA hlt hk with⟨_,e⟩|⟨hne,hkl,hk⟩|⟨rfl,e⟩
  ·cases e
  ·obtain⟨c,cs0,T,h1,h2,h3,h4,h5⟩:=H.box _ _ hk;exact⟨c,cs0,T,by rw[kc2 _ _ _ _ (by omega)];exact h1,(same hk rfl hne h1).trans h2,h3,h4,fun j l v hj hv=>(h5 j l v hj hv).good g⟩
  ·cases e;exact⟨b,cs,U,kc1 _ _ _,hrow,hlen,hone,fun j l v hj hv=>(hc j l v hj hv).good g⟩
 ·intro k ty fz sz ver xs hk;rcases qA hlt hk with⟨_,e⟩|⟨hne,hkl,hk⟩|⟨_,e⟩
  ·cases e
  ·rw[kc2 _ _ _ _ (by omega)];rcases H.arr _ _ _ _ _ hk with hn|⟨c,cs0,T,h1,h2,h3,h4,h5,h6⟩
   ·exact .inl hn
   ·exact .inr ⟨c,cs0,T,h1,(same hk rfl hne h1).trans h2,h3,h4,h5,fun i j e x hi hj=>let ⟨v,a,d⟩:=h6 i j e x hi hj;⟨v,a,d.good g⟩⟩
  ·cases e
 ·intro i j o1 o2 c hi hj t1 t2 m1 m2;rcases qA hlt hi with⟨_,e⟩|⟨hne,hil,hi1⟩|⟨e1,_⟩
  ·subst e;cases t1
  ·rw[kc2 _ _ _ _ (by omega)]at m1;rcases qA hlt hj with⟨_,e⟩|⟨hne',hjl,hj1⟩|⟨e2,_⟩
   ·subst e;cases t2
   ·rw[kc2 _ _ _ _ (by omega)]at m2;exact H.apart _ _ _ _ c hi1 hj1 t1 t2 m1 m2
   ·subst e2;rw[kc1]at m2;cases m2;rcases B.at_ with e|e
    ·exact absurd (H.apart _ _ _ _ _ hi1 hid t1 rfl m1 e) hne
    ·have:=H.blockLt hi1 (kb2 t1) m1;omega
  ·subst e1;rw[kc1]at m1;cases m1;rcases qA hlt hj with⟨_,e⟩|⟨hne',hjl,hj1⟩|⟨e2,_⟩
   ·subst e;cases t2
   ·rw[kc2 _ _ _ _ (by omega)]at m2;rcases B.at_ with e|e
    ·exact absurd (H.apart _ _ _ _ _ hid hj1 rfl t2 e m2).symm hne'
    ·have:=H.blockLt hj1 t2 m2;omega
   ·exact e2.symm
 ·intro i o c hi t1 m1;rcases qA hlt hi with⟨_,e⟩|⟨hne,hil,hi1⟩|⟨e1,_⟩
  ·subst e;cases t1
  ·rw[kc2 _ _ _ _ (by omega)]at m1;exact H.off _ _ _ hi1 t1 m1
  ·subst e1;rw[kc1]at m1;cases m1;rcases B.at_ with e|e
   ·exact H.off _ _ _ hid rfl e
   ·intro hx;have:=H.old _ hx;omega
 ·intro c hx;exact Nat.lt_of_lt_of_le (H.old c hx) B.size
theorem jh7 (H:aW w μ h) {l:L} {ys:List L} {v:Value} (hl:bE w μ h l v) (hr:tI h l=some ys) :
  ∃(ad:Addr) (c:Nat) (news:List Value),v = .slice (some ad) ys.length c∧news.length=ys.length∧(∀u∈news,u.oneCell'=true)∧(∀(j:Nat) (l:L) (u:Value),ys[j]?=some l→news[j]?=some u→bE w μ h l u)∧∀(j:Nat) (u:Value),news[j]?=some u→w.cell? (ad.add j)=some u:=by
 unfold tI at hr;split at hr
 ·rename_i id off n;split at hr
  ·rename_i ty cells hid;split at hr
   ·rename_i hle;cases hr;cases hl with
    |bslDead hd=>rw[hid]at hd;cases hd
    |@bsl _ _ _ _ _ cells' b cap cs T hid' hoff hμ hcap hb hcs=>
     rw[hid]at hid';cases hid';obtain⟨b',cs',T',h1,h2,h3,h4,h5⟩:=H.box _ _ hid;rw[hμ]at h1;cases h1;rw[hb]at h2;cases h2;have hn:((cells.drop off).take n).length=n:=by simp;omega
     refine⟨_,cap,(cs.toList.drop off).take n,by rw[hn],by simp;omega,fun u hu=>h4 u ?_,fun j l u hj hu=>?_,fun j u hu=>?_⟩
     ·have:=List.mem_of_mem_drop (kk1 hu);simpa using this
     ·have hjn:j<n:=by have:=(kd6.1 hj).1;omega
      rw[kg4 hjn,kj1]at hj hu;exact h5 _ _ _ hj (by simpa using hu)
     ·have hjn:j<n:=by have:=(kd6.1 hu).1;simp at this;omega
      rw[kg4 hjn,kj1]at hu;rw[fW,oU hb];simpa using hu
   ·cases hr
  ·cases hr
 ·cases hr
theorem jh8 {t ty:TypeId} {i:TI} {e:EI} (ht:ti P t=some i) (he:i.el=some e) (H:aW w μ h) {ls lx l:L} {ys:List L} {sv xv:Value} {h':aB}
  (hs:bE w μ h ls sv) (hx:bE w μ h lx xv) (hy:tI h lx=some ys) (ha:oY h e ls ys=some (l,h')) :
  ∃v' w' μ',(Builtin.append_ #[t,t] ty #[sv,xv]).run P w = .ok v' w'∧aW w' μ' h'∧bE w' μ' h' l v'∧v'.oneCell'=true∧Good w μ h w' μ' h':=by
 obtain⟨I,d,h1,h2,h3,h4,h5,h6,h7,h8,h9,h10,_⟩:=fF ht;obtain⟨et,rfl⟩:=h10 (by rw[he];rfl);have hE:gW P et=some e:=by rw[←h9 et rfl];exact he
 obtain⟨E,dE,g1,g2,g3,g4,g5,g6⟩:=oT hE;unfold oY at ha;split at ha
 ·rename_i hc;obtain⟨hsz1,hne,hzs⟩:=hc;obtain⟨ad,c,news,rfl,hnl,hn1,hnr,hcells⟩:=jh7 H hx hy;obtain⟨z,zv,hz,hzv,hzsz,hsz0⟩:=zN1 hE g1 hzs;have hz1:=zk8 hzv;have hE1:E.size=1:=by omega
  have hlen:news.length=ys.length*E.size:=by rw[hnl,hE1];omega
  have hpos:0<ys.length:=List.length_pos_iff.2 hne;split at ha
  ·-- nil
   split at ha
   ·rename_i hb;cases ha;cases hs;have hrun:=run_append_nil (P:=P) w t ty et E z h2 g1 hz ad ys.length c news hlen hcells hpos (by have:=hb.2;simp only[aM]at this;omega) (by have:=hb.1;rw[g4]at this;simp only[aM]at this;omega);have hge:=grownCap_ge w ys.length 0 et;have Hd:=H.drew;have gd:=Good.drew w μ h;have hcs:ys.length≤(news.toArray++Builtin.zeroCells z.cells (grownCap w ys.length 0 et-ys.length)).size:=by simp[hnl]
    refine⟨_,_,_,hrun,Hd.push (o:=.box ys) ⟨hcs,?_,?_⟩,?_,rfl,gd.trans (Good.push _ _ _ _ _)⟩
    ·intro v hv;simp only[kq8,kp4]at hv;rcases hv with hv|hv
     ·exact hn1 v hv
     ·exact zV hz1 _ v hv
    ·intro j l v hj hv;have hjl:=(kd6.1 hj).1;rw[kk2 (by simp;omega)]at hv;exact(hnr j l v hj (by simpa using hv)).good gd
    ·refine .bsl (ty:=none) (cells:=ys) (by simp) (by omega) (kc1 _ _ _) hge (heap_alloc_new w.drew _) ?_;simp only[kp2,kp5,size_zeroCells,hzsz,hnl,hsz1];omega
   ·cases ha
  ·-- a slice
   rename_i id len;split at ha
   ·rename_i cells hid;split at ha
    ·rename_i hb;obtain⟨hlc,hb1,hb2⟩:=hb;cases ha;have hidl:=(kd6.1 hid).1;have hget:∀o:aN,(h.set id .dead++[o])[h.length]?=some o:=fun o=>by simp
     cases hs with
     |bslDead hd=>rw[hid]at hd;cases hd
     |@bsl _ _ _ _ _ cells0 b0 cap0 cs0 T0 hid' hoff hμ hcap hb0 hcs=>
      rw[hid]at hid';cases hid';obtain⟨b',cs',T',q1,q2,q3,q4,q5⟩:=H.box _ _ hid;rw[hμ]at q1;cases q1;rw[hb0]at q2;cases q2;have hol:(cs0.toList.take len).length=len:=by simp;omega
      have holds:∀(j:Nat) (v:Value),(cs0.toList.take len)[j]?=some v→w.cell? ((⟨b0,0,none⟩:Addr).add j)=some v:=by
       intro j v hv;have hj:j<len:=by have:=(kd6.1 hv).1;omega
       rw[kg4 hj]at hv;rw[fW,kh8,oU hb0];simpa using hv
      have hcl:(cells.take len++ys).length=len+ys.length:=by simp;omega
      have hrep:∀(cs:Array Value),(∀k,k<len+ys.length→cs[k]?=(cs0.toList.take len++news)[k]?)→∀(j:Nat) (l:L) (v:Value),(cells.take len++ys)[j]?=some l→cs[j]?=some v→bE w μ h l v:=by
       intro cs hk j l v hj hv;have hjl:j<len+ys.length:=by have:=(kd6.1 hj).1;omega
       rw[hk j hjl]at hv;rw[ko9]at hj hv;have e1:(cells.take len).length=len:=by simp;omega
       rw[e1]at hj;rw[hol]at hv;split at hj
       ·rename_i hlt;rw[if_pos hlt,kg4 hlt]at hv;rw[kg4 hlt]at hj;exact q5 j l v hj (by simpa using hv)
       ·rename_i hge;rw[if_neg hge]at hv;exact hnr _ _ _ hj hv
      by_cases hroom:len+ys.length≤cap0
      ·-- in place
       obtain⟨w',cs',hst,hrow,hsz',hall⟩:=vR (P:=P) b0 len T0 news 0 cs0 w hb0 (by omega) hn1;simp only[Nat.add_zero]at hall;have hrun:(Builtin.append_ #[t,t] ty #[.slice (some ⟨b0,0,none⟩) len cap0,.slice (some ad) ys.length c]).run P w = .ok (.slice (some ⟨b0,0,none⟩) (len+ys.length) cap0) w':=by
        have hf:=run_firstCells_some (P:=P) w E.size ys.length ad ys.length c news hlen hcells;have hadd:(⟨b0,0,none⟩:Addr).add (len*E.size)=⟨b0,len,none⟩:=by rw[fW,kh8,hE1,Nat.mul_one]
        simp[Builtin.append_,run_underlying h2,sizeOf,typeInfo,g1,Builtin.lenOf,hroom,hf,hadd,hst,Result.andThen]
       have B:vY w μ id b0 w':=⟨hrow.os,hrow.tape,hrow.output,Nat.le_of_eq hrow.size.symm,fun b hb' hne=>hrow.other b (fun e=>hne (e▸hμ)),fun b c T fr hb'=>by
         by_cases e:b=b0
         ·subst e;rw[hb0]at hb';cases hb';exact⟨cs',_,hrow.row,hsz'⟩
         ·exact⟨c,_,(hrow.other b e).trans hb',rfl⟩,.inl hμ⟩
       have hone:∀v∈cs',v.oneCell'=true:=by
        intro u hu;obtain⟨q,hq,rfl⟩:=Array.getElem_of_mem hu;have:=hall q;rw[Array.getElem?_eq_getElem hq]at this;split at this
        ·exact hn1 _ (List.mem_of_getElem? this.symm)
        ·exact q4 _ (Array.mem_of_getElem? this.symm)
       have hk:∀k,k<len+ys.length→cs'[k]?=(cs0.toList.take len++news)[k]?:=by
        intro k hk;rw[hall k,ko9,hol];by_cases c1:k<len
        ·rw[if_neg (by omega),if_pos c1,kg4 c1];simp
        ·rw[if_pos ⟨by omega,by omega⟩,if_neg c1]
       refine⟨_,w',_,hrun,H.moved B hid hrow.row (by rw[hcl,hsz'];omega) hone (hrep cs' hk),?_,rfl,kc8 B hid⟩;exact .bsl (hget _) (by rw[hcl];omega) (kc1 _ _ _) hroom hrow.row (by rw[hsz'];omega)
      ·-- grown
       have hrun:=run_append_grow (P:=P) w t ty et E z h2 g1 hz ⟨b0,0,none⟩ len cap0 (cs0.toList.take len) (by rw[hol,hE1];omega) holds ad ys.length c news hlen hcells (by omega) (by simp only[aM]at hb2;omega) (zk9 (by omega) (by rw[←g4];exact hb1));have hge:=grownCap_ge w (len+ys.length) cap0 et;generalize hcs':(cs0.toList.take len).toArray++news.toArray++Builtin.zeroCells z.cells (grownCap w (len+ys.length) cap0 et-(len+ys.length))=cs' at hrun;have hsize:cs'.size=grownCap w (len+ys.length) cap0 et:=by
        rw[←hcs'];simp only[kp2,kp5,hol,hnl,size_zeroCells,hzsz,hsz1];omega
       have B:vY w μ id w.heap.size (w.drew.alloc (.cells cs' et)):=
        ⟨rfl,rfl,rfl,by simp,fun b hb _=>Go.RowKit.Below.heap_alloc w.drew _ b hb,fun b c T fr hb=>⟨c,_,(Go.RowKit.Below.heap_alloc w.drew _ b (Array.getElem?_eq_some_iff.1 hb).1).trans hb,rfl⟩,.inr (Nat.le_refl _)⟩
       have hheap:(w.drew.alloc (.cells cs' et)).heap[w.heap.size]?=some (.cells cs' et (0,0)):=heap_alloc_new w.drew _;have hone:∀v∈cs',v.oneCell'=true:=by
        intro v hv;rw[←hcs']at hv;simp only[kq8,kp4]at hv;rcases hv with(hv|hv)|hv
        ·exact q4 v (by simpa using kk1 hv)
        ·exact hn1 v hv
        ·exact zV hz1 _ v hv
       have hk:∀k,k<len+ys.length→cs'[k]?=(cs0.toList.take len++news)[k]?:=by
        intro k hk;rw[←hcs',kk2 (by simp[hol,hnl];omega)];simp
       refine⟨_,_,_,hrun,H.moved B hid hheap (by rw[hcl,hsize];omega) hone (hrep cs' hk),?_,rfl,kc8 B hid⟩;exact .bsl (hget _) (by rw[hcl];omega) (kc1 _ _ _) hge hheap (by omega)
    ·cases ha
   ·cases ha
  ·cases ha
 ·cases ha
end Go.Vt
