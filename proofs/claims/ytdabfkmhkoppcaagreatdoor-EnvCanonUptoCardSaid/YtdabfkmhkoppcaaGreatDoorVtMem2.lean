import Derived.Test.YtdabfkmhkoppcaaGreatDoorVtMem
set_option linter.all false
open Array renaming getElem?_eq_some_iff→kt0,size_append→kB7
open List renaming getElem?_eq_some_iff→kp9,getElem?_set_ne→ku5,getElem?_take_of_lt→ks5,length_append→kq3,length_pos_iff→kI4,size_toArray→kC0
open Nat renaming add_mul→kA6,le_refl→ks0,le_trans→kD2,mul_le_mul_right→kv6,zero_add→kt2
namespace Go.Vt
set_option linter.unusedSectionVars false
set_option linter.unusedVariables false
variable [cJ]
variable {P:Program} {w w':World} {μ μ':Pl} {h:aB}
theorem aR.blockLt (H:aR w μ h) {id b:Nat} {o:aI} (ho:h[id]?=some o) (ht:o.there=true) (hm:μ id=some b):b<w.heap.size:=by
 cases o with
 |bx ty cells=>obtain⟨b',cs,T,a1,a2,_⟩:=H.box _ _ ho;rw[hm]at a1;cases a1;exact(kt0.1 a2).1
 |ar ty fz sz ver xs=>
  rcases H.arr _ _ _ _ _ ho with⟨hn',_⟩|⟨b',cs,T,a1,a2,_⟩
  ·rw[hm]at hn';cases hn'
  ·rw[hm]at a1;cases a1;exact(kt0.1 a2).1
 |dead=>cases ht
structure rD (w:World) (μ:Pl) (id:Nat) (w':World) (μ':Pl):Prop where
 os:w'.os=w.os
 tape:w'.tape=w.tape
 output:w'.output=w.output
 size:w.heap.size≤w'.heap.size
 block:∀b,b<w.heap.size→μ id≠some b→w'.heap[b]?=w.heap[b]?
 shape:∀(b:Nat) (cs:Array Value) (T:TypeId) (fr:Nat×Nat),w.heap[b]?=some (Obj.cells cs T fr)→∃(cs':Array Value) (fr':Nat×Nat),w'.heap[b]?=some (Obj.cells cs' T fr')∧cs'.size=cs.size
 others:∀k,k≠id→μ' k=μ k
 out:μ'.X=μ.X
 at_:∀b,μ' id=some b→μ id=some b∨w.heap.size≤b
theorem ko7 {id sz ver:Nat} {ty:Option TypeId} {xs xs':List (List D)} {sz':Nat} (B:rD w μ id w' μ') (hid:h[id]?=some (.ar ty false sz ver xs)):Good w μ h w' μ' (h.set id (.ar ty false sz' (ver+1) xs')) where
 os:=B.os
 tape:=B.tape
 output:=B.output
 size:=B.size
 out:=B.out
 block b hb hn:=B.block b hb (fun e=>hn ⟨id,_,hid,rfl,e⟩)
 shape:=B.shape
 fresh b hb:=by
  obtain⟨k,o,h1,h2,h3⟩:=hb;rcases iH h1 with⟨rfl,rfl⟩|⟨hne,h1⟩
  ·rcases B.at_ b h3 with e|e
   ·exact .inl ⟨_,_,hid,rfl,e⟩
   ·exact .inr e
  ·rw[B.others k hne]at h3;exact .inl ⟨k,o,h1,h2,h3⟩
 len:=by simp
 boxes k ty cells hb:=by
  have e:k≠id:=by rintro rfl;rw[hid]at hb;cases hb
  exact .inr ⟨cells,_,by rw[ku5 (Ne.symm e)];exact hb,rfl,B.others k e⟩
 arrs k ty fz sz0 ver0 xs0 hb:=by
  by_cases e:k=id
  ·subst e;rw[hid]at hb;cases hb;exact .inr ⟨false,sz',ver+1,xs',ty,by simp[(kp9.1 hid).1],.inr (by omega)⟩
  ·exact .inr ⟨fz,sz0,ver0,xs0,_,by rw[ku5 (Ne.symm e)];exact hb,.inl ⟨rfl,rfl,rfl,B.others k e⟩⟩
 deads k hb:=by
  have e:k≠id:=by rintro rfl;rw[hid]at hb;cases hb
  rw[ku5 (Ne.symm e)];exact hb
theorem aR.bump {id sz ver:Nat} {ty:Option TypeId} {xs xs':List (List D)} {sz':Nat} (H:aR w μ h) (B:rD w μ id w' μ') (hid:h[id]?=some (.ar ty false sz ver xs))
  (hnew:(μ' id=none∧xs'=[])∨∃b cs T,μ' id=some b∧w'.heap[b]?=some (.cells cs T (0,0))∧xs'.length*sz'≤cs.size∧(∀v∈cs,v.oneCell'=true)∧(∀(i:Nat) (e:List D),xs'[i]?=some e→e.length=sz')∧
   ∀(i j:Nat) (e:List D) (x:D),xs'[i]?=some e→e[j]?=some x→∃v,cs[i*sz'+j]?=some v∧cM w (Mut μ h) x v)
  (hty:∀b,μ' id=some b→(aI.ar ty false sz' (ver+1) xs').tyOk w' b:=by intros;trivial) :
  aR w' μ' (h.set id (.ar ty false sz' (ver+1) xs')):=by
 have g:Good w μ h w' μ' (h.set id (.ar ty false sz' (ver+1) xs')):=ko7 B hid;have same:∀{k b:Nat} {o:aI},h[k]?=some o→o.there=true→k≠id→μ k=some b→w'.heap[b]?=w.heap[b]?:=by
  intro k b o ho ht hne hm;refine B.block b (H.blockLt ho ht hm) (fun e=>hne ?_);exact(H.apart _ _ _ _ _ hid ho rfl ht e hm).symm
 refine⟨?_,?_,?_,?_,?_,fun i o b hi m1=>by
  rcases iH hi with⟨e1,e2⟩|⟨hne,hi1⟩
  ·subst e1;subst e2;exact hty b m1
  ·rw[B.others i hne]at m1;exact(H.ty _ _ _ hi1 m1).good g,H.tabs g⟩
 ·intro k ty cells hk;rcases iH hk with⟨_,e⟩|⟨hne,hk⟩
  ·cases e
  ·obtain⟨b,cs,T,h1,h2,h3,h4,h5⟩:=H.box _ _ hk;exact⟨b,cs,T,(B.others k hne).trans h1,(same hk rfl hne h1).trans h2,h3,h4,fun j l v hj hv=>(h5 j l v hj hv).good g⟩
 ·intro k ty fz sz0 ver0 xs0 hk;rcases iH hk with⟨rfl,e⟩|⟨hne,hk⟩
  ·cases e;rcases hnew with hn|⟨b,cs,T,h1,h2,h3,h4,h5,h6⟩
   ·exact .inl hn
   ·exact .inr ⟨b,cs,T,h1,h2,h3,h4,h5,fun i j e x hi hj=>let ⟨v,a,d⟩:=h6 i j e x hi hj;⟨v,a,d.good g⟩⟩
  ·rcases H.arr _ _ _ _ _ hk with⟨hn,hx⟩|⟨b,cs,T,h1,h2,h3,h4,h5,h6⟩
   ·exact .inl ⟨(B.others k hne).trans hn,hx⟩
   ·exact .inr ⟨b,cs,T,(B.others k hne).trans h1,(same hk rfl hne h1).trans h2,h3,h4,h5,fun i j e x hi hj=>let ⟨v,a,d⟩:=h6 i j e x hi hj;⟨v,a,d.good g⟩⟩
 ·intro i j o o' b hi hj t1 t2 m1 m2;rcases iH hi with⟨e1,_⟩|⟨hne,hi1⟩<;>rcases iH hj with⟨e2,_⟩|⟨hne',hj1⟩
  ·rw[e1,e2]
  ·subst e1;rw[B.others j hne']at m2;rcases B.at_ b m1 with e|e
   ·exact H.apart _ _ _ _ b hid hj1 rfl t2 e m2
   ·have:=H.blockLt hj1 t2 m2;omega
  ·subst e2;rw[B.others i hne]at m1;rcases B.at_ b m2 with e|e
   ·exact H.apart _ _ _ _ b hi1 hid t1 rfl m1 e
   ·have:=H.blockLt hi1 (kn4 t1) m1;omega
  ·rw[B.others i hne]at m1;rw[B.others j hne']at m2;exact H.apart _ _ _ _ b hi1 hj1 t1 t2 m1 m2
 ·intro i o b hi t1 m1;rw[B.out];rcases iH hi with⟨e1,_⟩|⟨hne,hi1⟩
  ·subst e1;rcases B.at_ b m1 with e|e
   ·exact H.off _ _ _ hid rfl e
   ·intro hx;have:=H.old _ hx;omega
  ·rw[B.others i hne]at m1;exact H.off _ _ _ hi1 t1 m1
 ·intro b hb;rw[B.out]at hb;exact Nat.lt_of_lt_of_le (H.old b hb) B.size
theorem ko8 (w:World) (μ:Pl) (h:aB) (o:aI):Good w μ h w (μ.put h.length none) (h++[o]) where
 os:=rfl
 tape:=rfl
 output:=rfl
 size:=ks0 _
 out:=rfl
 block _ _ _:=rfl
 shape _ cs _ _ hb:=⟨cs,_,hb,rfl⟩
 fresh b hm:=by
  obtain⟨id,o',h1,h2,h3⟩:=hm;rcases kS h1 with⟨hlt,h1⟩|⟨rfl,rfl⟩
  ·rw[ko4 _ _ _ _ (by omega)]at h3;exact .inl ⟨id,o',h1,h2,h3⟩
  ·rw[ko3]at h3;cases h3
 len:=by simp
 boxes id ty cells hb:=.inr ⟨cells,ty,nU _ hb,rfl,ko4 _ _ _ _ (by have:=(kp9.1 hb).1;omega)⟩
 arrs id ty fz sz ver xs hb:=.inr ⟨fz,sz,ver,xs,ty,nU _ hb,.inl ⟨rfl,rfl,rfl,ko4 _ _ _ _ (by have:=(kp9.1 hb).1;omega)⟩⟩
 deads id hb:=nU _ hb
theorem ko9 (w:World) (μ:Pl) (h:aB) (sz:Nat):Good w μ h w (μ.put h.length none) (h++[.arr false sz 0 []]):=ko8 w μ h _
theorem aR.pushN (H:aR w μ h) {o:aI} (ho:o = .dead∨∃ty sz,o = .ar ty false sz 0 []):aR w (μ.put h.length none) (h++[o]):=by
 have g:=ko8 w μ h o;refine⟨?_,?_,?_,?_,H.old,fun i o b hi m1=>by
  rcases kS hi with⟨hlt,hi1⟩|⟨e1,e2⟩
  ·rw[ko4 _ _ _ _ (by omega)]at m1;exact(H.ty _ _ _ hi1 m1).good g
  ·rw[e1,ko3]at m1;(cases m1),H.tabs g⟩
 ·intro id ty cells hid;rcases kS hid with⟨hlt,hid⟩|⟨_,e⟩
  ·obtain⟨b,cs',T',h1,h2,h3,h4,h5⟩:=H.box _ _ hid;exact⟨b,cs',T',by rw[ko4 _ _ _ _ (by omega)];exact h1,h2,h3,h4,fun j l v hj hv=>(h5 j l v hj hv).good g⟩
  ·rcases ho with ho|⟨ty',sz,ho⟩<;>rw[ho]at e<;>cases e
 ·intro id ty fz sz' ver xs hid;rcases kS hid with⟨hlt,hid⟩|⟨rfl,e⟩
  ·rw[ko4 _ _ _ _ (by omega)];rcases H.arr _ _ _ _ _ hid with hn|⟨b,cs',T',h1,h2,h3,h4,h5,h6⟩
   ·exact .inl hn
   ·exact .inr ⟨b,cs',T',h1,h2,h3,h4,h5,fun i j e x hi hj=>let ⟨v,a,b⟩:=h6 i j e x hi hj;⟨v,a,b.good g⟩⟩
  ·rcases ho with ho|⟨ty',sz,ho⟩<;>rw[ho]at e<;>cases e;exact .inl ⟨ko3 _ _ _,rfl⟩
 ·intro i j o1 o2 b hi hj t1 t2 m1 m2;rcases kS hi with⟨hlt,hi1⟩|⟨e1,_⟩<;>rcases kS hj with⟨hlt',hj1⟩|⟨e2,_⟩
  ·rw[ko4 _ _ _ _ (by omega)]at m1 m2;exact H.apart i j o1 o2 b hi1 hj1 t1 t2 m1 m2
  ·rw[e2,ko3]at m2;cases m2
  ·rw[e1,ko3]at m1;cases m1
  ·rw[e1,e2]
 ·intro i o1 b hi t1 m1;rcases kS hi with⟨hlt,hi1⟩|⟨e1,_⟩
  ·rw[ko4 _ _ _ _ (by omega)]at m1;exact H.off i o1 b hi1 t1 m1
  ·rw[e1,ko3]at m1;cases m1
theorem aR.pushNone (H:aR w μ h) (sz:Nat):aR w (μ.put h.length none) (h++[.arr false sz 0 []]):=H.pushN (.inr ⟨none,sz,rfl⟩)
theorem Good.drew (w:World) (μ:Pl) (h:aB):Good w μ h w.drew μ h:=
 ⟨rfl,rfl,rfl,ks0 _,rfl,fun _ _ _=>rfl,fun _ cs _ _ hb=>⟨cs,_,hb,rfl⟩,fun _ hm=>.inl hm,ks0 _,
  fun _ ty cells hb=>.inr ⟨cells,ty,hb,rfl,rfl⟩,fun _ ty fz sz ver xs hb=>.inr ⟨fz,sz,ver,xs,ty,hb,.inl ⟨rfl,rfl,rfl,rfl⟩⟩,fun _ hb=>hb⟩
theorem aR.drew (H:aR w μ h):aR w.drew μ h:=by
 have g:=Good.drew w μ h;refine⟨?_,?_,H.apart,H.off,H.old,fun i o b hi hb=>(H.ty i o b hi hb).good g,H.tabs g⟩
 ·intro id ty cells hid;obtain⟨b,cs,T,h1,h2,h3,h4,h5⟩:=H.box _ _ hid;exact⟨b,cs,T,h1,h2,h3,h4,fun j l v hj hv=>(h5 j l v hj hv).good g⟩
 ·intro id ty fz sz ver xs hid;rcases H.arr _ _ _ _ _ hid with hn|⟨b,cs,T,h1,h2,h3,h4,h5,h6⟩
  ·exact .inl hn
  ·exact .inr ⟨b,cs,T,h1,h2,h3,h4,h5,fun i j e x hi hj=>let ⟨v,a,d⟩:=h6 i j e x hi hj;⟨v,a,d.good g⟩⟩
theorem zp1 {x:Value} {z:V} (hz:jL x=some z):∀v∈x.cells,v.oneCell'=true:=by
 intro v hv;unfold jL at hz;split at hz
 ·rename_i cs;cases hc:nS cs.toList with
  |none=>simp[hc]at hz
  |some ls=>exact(zn0 (w:=default) (μ:=⟨fun _=>none,fun _=>False⟩) (h:=[]) hc).2.1 v (by simpa[Value.cells]using hv)
 ·cases hc:oN x with
  |none=>simp[hc]at hz
  |some l=>
   have h1:=(zc1 (w:=default) (μ:=⟨fun _=>none,fun _=>False⟩) (h:=[]) hc).2;have:x.cells=#[x]:=by cases x<;>first|rfl|cases h1
   rw[this]at hv;simp at hv;rw[hv];exact h1
theorem zd2 {z:Array Value} (hz:∀v∈z,v.oneCell'=true) (n:Nat):∀v∈Builtin.zeroCells z n,v.oneCell'=true:=by
 intro v hv;simp only[Builtin.zeroCells,Array.mem_map,Array.mem_range]at hv;obtain⟨k,hk,rfl⟩:=hv;have hpos:0<z.size:=by rcases Nat.eq_zero_or_pos z.size with e|e;rw[e]at hk;simp at hk;exact e
 have hlt:k % z.size<z.size:=Nat.mod_lt _ hpos;rw[getElem!_pos z _ hlt];exact hz _ (Array.getElem_mem _)
theorem zp2 {need old bytes:Nat} (h:old<need) (hb:need*bytes≤aV):Builtin.nextslicecap need old*bytes≤281474976710656:=growslice_fits h (by simpa[aV]using hb)
theorem zT6:∀{xs:List Value} {ls:List L},nS xs=some ls→ls.length=xs.length
 |[],ls,hx=>by cases hx;rfl
 |x::xs,ls,hx=>by
  unfold nS at hx;split at hx
  ·rename_i l r hl hr;cases hx;simp[zT6 hr]
  ·cases hx
theorem zT7 {x:Value} {z:V} {ls:List L} (hz:jL x=some z) (hl:iG z=some ls):ls.length=x.cells.size:=by
 unfold jL at hz;split at hz
 ·rename_i cs;cases hc:nS cs.toList with
  |none=>simp[hc]at hz
  |some l=>simp[hc]at hz;subst hz;cases hl;simpa[Value.cells]using zT6 hc
 ·cases hc:oN x with
  |none=>simp[hc]at hz
  |some l=>
   simp[hc]at hz;subst hz;cases hl;have h1:=(zc1 (w:=default) (μ:=⟨fun _=>none,fun _=>False⟩) (h:=[]) hc).2;have:x.cells=#[x]:=by cases x<;>first|rfl|cases h1
   rw[this];rfl
theorem zT8 {et:TypeId} {e:EI} {E:TypeInfo} (hE:iU P et=some e) (g1:P.info? et=some E) (hz:zok e=true):∃z zv,E.zero=some z∧jL z=some zv∧z.cells.size=e.size∧e.size≠0:=by
 obtain⟨E',dE,g1',g2,g3,g4,g5,g6⟩:=pH hE;rw[g1]at g1';cases g1';unfold zok at hz;split at hz
 ·rename_i zv hzv;split at hz
  ·rename_i ls hls;simp only[Bool.and_eq_true,beq_iff_eq,bne_iff_ne]at hz;rw[g5]at hzv;cases hzz:E.zero with
   |none=>simp[hzz]at hzv
   |some z=>
    have ha:jL z=some zv:=by simpa[hzz]using hzv
    exact⟨z,zv,rfl,ha,by rw[←zT7 ha hls];exact hz.1,hz.2⟩
  ·cases hz
 ·cases hz
theorem jp2 {t ty:TypeId} {i:TI} {e:EI} (ht:ti P t=some i) (he:i.el=some e) (H:aR w μ h) {ls lx l:L} {ys:List (List D)} {sv xv:Value} {h':aB}
  (hs:aY w μ h ls sv) (hx:aY w μ h lx xv) (hy:oR h lx=some ys) (ha:uV h e ls ys=some (l,h')) :
  ∃v' w' μ',(Builtin.append_ #[t,t] ty #[sv,xv]).run P w = .ok v' w'∧aR w' μ' h'∧aY w' μ' h' l v'∧v'.oneCell'=true∧Good w μ h w' μ' h':=by
 obtain⟨I,d,h1,h2,h3,h4,h5,h6,h7,h8,h9,h10,_⟩:=fE ht;obtain⟨et,rfl⟩:=h10 (by rw[he];rfl);have hE:iU P et=some e:=by rw[←h9 et rfl];exact he
 obtain⟨E,dE,g1,g2,g3,g4,g5,g6⟩:=pH hE;unfold uV at ha;split at ha
 ·rename_i hc;obtain⟨hal,hzs⟩:=hc;obtain⟨A,c,news,rfl,hnews,hnil,hcells⟩:=zT5 H hx hy hal;obtain⟨z,zv,hz,hzv,hzsz,hsz0⟩:=zT8 hE g1 hzs;have hz1:=zp1 hzv;have hlen:news.length=ys.length*E.size:=by rw[hnews.len,g3]
  have newb:∀(olds:List Value) (rows:List (List D)) (n cap:Nat),mY w (Mut μ h) e.size rows olds→rows.length=n→n+ys.length≤cap→
    (rows++ys).length*e.size≤(olds.toArray++news.toArray++Builtin.zeroCells z.cells (cap-(n+ys.length))).size∧
    (∀v∈(olds.toArray++news.toArray++Builtin.zeroCells z.cells (cap-(n+ys.length))),v.oneCell'=true)∧
    (∀(i:Nat) (el:List D),(rows++ys)[i]?=some el→el.length=e.size)∧
    ∀(i j:Nat) (el:List D) (x:D),(rows++ys)[i]?=some el→el[j]?=some x→∃v,(olds.toArray++news.toArray++Builtin.zeroCells z.cells (cap-(n+ys.length)))[i*e.size+j]?=some v∧cM w (Mut μ h) x v:=by
   intro olds rows n cap ho hn hcap;have hra:=ho.append hnews;refine⟨?_,?_,hra.wide,?_⟩
   ·have:=hra.len;simp at this ⊢;omega
   ·intro v hv;simp only[Array.mem_append,List.mem_toArray]at hv;rcases hv with(hv|hv)|hv
    ·exact ho.one v hv
    ·exact hnews.one v hv
    ·exact zd2 hz1 _ v hv
   ·intro i j el x hi hj;obtain⟨v,a1,a2⟩:=hra.cell i j el x hi hj;refine⟨v,?_,a2⟩;have hlt:=(kp9.1 a1).1;rw[Array.getElem?_append_left (by simpa using hlt)];simpa using a1
  have nilcase:∀w0:World,ys=[]→(Builtin.append_ #[t,t] ty #[.slice none 0 0,.slice A ys.length c]).run P w0 = .ok (.slice none 0 0) w0:=by
   intro w0 e0;subst e0;cases A with
   |none=>simp[Builtin.append_,run_underlying h2,sizeOf,typeInfo,g1,Builtin.lenOf,Builtin.firstCells,Result.andThen]
   |some ad=>simp[Builtin.append_,run_underlying h2,sizeOf,typeInfo,g1,Builtin.lenOf,Builtin.firstCells,loadCells,loadCellsFrom,Result.andThen]
  have hAsome:ys≠[]→∃ad,A=some ad:=by
   intro hne;cases A with
   |none=>exact absurd (hnil rfl) hne
   |some ad=>exact⟨ad,rfl⟩
  split at ha
  ·-- nil
   split at ha
   ·rename_i hb;cases ha;cases hs;by_cases e0:ys=[]
    ·subst e0;exact⟨_,w,_,nilcase w rfl,H.pushNone _,.ownNil (ty:=none) (fz:=false) (sz:=e.size) (xs:=[]) (by simp) (ko3 _ _ _),rfl,ko9 _ _ _ _⟩
    ·obtain⟨ad,rfl⟩:=hAsome e0;have hpos:0<ys.length:=kI4.2 e0;have hrun:=run_append_nil (P:=P) w t ty et E z h2 g1 hz ad ys.length c news hlen (hcells ad rfl) hpos (by have:=hb.2;simp only[aV]at this;omega) (by have:=hb.1;rw[g4]at this;simp only[aV]at this;omega);have hge:=grownCap_ge w ys.length 0 et;obtain⟨n1,n2,n3,n4⟩:=newb [] [] 0 (grownCap w ys.length 0 et) ⟨by simp,by simp,by simp,by simp⟩ rfl (by omega);simp only[kt2,List.nil_append]at n1 n2 n3 n4;have hcs:(([]:List Value).toArray++news.toArray++Builtin.zeroCells z.cells (grownCap w ys.length 0 et-ys.length))=(news.toArray++Builtin.zeroCells z.cells (grownCap w ys.length 0 et-ys.length)):=by simp
     rw[hcs]at n1 n2 n4;have Hd:=H.drew;have gd:=Good.drew w μ h;refine⟨_,_,_,hrun,Hd.push (o:=.arr false e.size 0 ys) ⟨n1,n2,n3,fun i j el x hi hj=>let ⟨v,a,b⟩:=n4 i j el x hi hj;⟨v,a,b.good gd⟩⟩,?_,rfl,gd.trans (Good.push _ _ _ _ _)⟩;refine .own (ty:=none) (fz:=false) (sz:=e.size) (xs:=ys) (by simp) (ks0 _) (ko3 _ _ _) hge (heap_alloc_new w.drew _) ?_;have:=hnews.len;simp only[kB7,kC0,size_zeroCells,hzsz,this,←kA6];apply kv6;omega
   ·cases ha
  ·-- own
   rename_i id ver len;split at ha
   ·rename_i sz ver' xs hid;split at ha
    ·rename_i hb;obtain⟨rfl,rfl,hb1,hb2⟩:=hb;cases ha;have hidl:=(kp9.1 hid).1;have hget:(h.set id (.arr false e.size (ver'+1) (xs.take len++ys)))[id]?=some (.arr false e.size (ver'+1) (xs.take len++ys)):=by simp[hidl]
     have hb2':len+ys.length≤140737488355328:=by simpa[aV]using hb2
     have grow:∀(olds:List Value) (old cap:Nat) (hrows:mY w (Mut μ h) e.size (xs.take len) olds) (hlen0:(xs.take len).length=len) (hcap:len+ys.length≤cap) (cs:Array Value),cs=olds.toArray++news.toArray++Builtin.zeroCells z.cells (cap-(len+ys.length))→
       aR (w.drew.alloc (.cells cs et)) (μ.put id (some w.heap.size)) (h.set id (.arr false e.size (ver'+1) (xs.take len++ys)))∧
       aY (w.drew.alloc (.cells cs et)) (μ.put id (some w.heap.size)) (h.set id (.arr false e.size (ver'+1) (xs.take len++ys))) (.own id (ver'+1) (len+ys.length)) (.slice (some ⟨w.heap.size,0,none⟩) (len+ys.length) cap)∧
       Good w μ h (w.drew.alloc (.cells cs et)) (μ.put id (some w.heap.size)) (h.set id (.arr false e.size (ver'+1) (xs.take len++ys))):=by
      intro olds old cap hrows hlen0 hcap cs hcs;obtain⟨n1,n2,n3,n4⟩:=newb olds (xs.take len) len cap hrows hlen0 hcap;rw[←hcs]at n1 n2 n4;have hheap:(w.drew.alloc (.cells cs et)).heap[w.heap.size]?=some (.cells cs et (0,0)):=heap_alloc_new w.drew _;have B:rD w μ id (w.drew.alloc (.cells cs et)) (μ.put id (some w.heap.size)):=
       ⟨rfl,rfl,rfl,by simp,fun b hb _=>Go.RowKit.Below.heap_alloc w.drew _ b hb,fun b c T fr hb=>⟨c,_,(Go.RowKit.Below.heap_alloc w.drew _ b (kt0.1 hb).1).trans hb,rfl⟩,fun k hk=>ko4 _ _ _ _ hk,rfl,fun b hb=>by rw[ko3]at hb;cases hb;exact .inr (ks0 _)⟩
      refine⟨H.bump B hid (.inr ⟨w.heap.size,cs,et,ko3 _ _ _,hheap,n1,n2,n3,n4⟩),?_,ko7 B hid⟩;refine .own hget (by rw[kq3,hlen0];exact ks0 _) (ko3 _ _ _) hcap hheap ?_;have e1:=hrows.len;have e2:=hnews.len;rw[hlen0]at e1;rw[hcs];simp only[kB7,kC0,size_zeroCells,hzsz,e1,e2,←kA6];apply kv6;omega
     cases hs with
     |ownNil hid' hμ=>
      by_cases e0:ys=[]
      ·subst e0;have B:rD w μ id w μ:=⟨rfl,rfl,rfl,ks0 _,fun _ _ _=>rfl,fun _ c _ _ hb=>⟨c,_,hb,rfl⟩,fun _ _=>rfl,rfl,fun b hb=>.inl hb⟩;refine⟨_,w,μ,nilcase w rfl,H.bump B hid (.inl ⟨hμ,by simp⟩),?_,rfl,ko7 B hid⟩;exact .ownNil hget hμ
      ·obtain⟨ad,rfl⟩:=hAsome e0;have hpos:0<ys.length:=kI4.2 e0;have hrun:=run_append_nil (P:=P) w t ty et E z h2 g1 hz ad ys.length c news hlen (hcells ad rfl) hpos (by omega) (by rw[kt2]at hb1;rw[g4]at hb1;simp only[aV]at hb1;omega);have hge:=grownCap_ge w ys.length 0 et;obtain⟨r1,r2,r3⟩:=grow [] 0 (grownCap w ys.length 0 et) ⟨by simp,by simp,by simp,by simp⟩ (by simp) (by omega) (news.toArray++Builtin.zeroCells z.cells (grownCap w ys.length 0 et-ys.length)) (by simp);rw[kt2]at r2;exact⟨_,_,_,hrun,r1,by rw[kt2];exact r2,rfl,r3⟩
     |@own _ _ _ _ _ _ _ _ b0 cap0 cs0 T0 hid' hl hμ hcap hb hcs=>
      rw[hid]at hid';cases hid';rcases H.arr _ _ _ _ _ hid with⟨hn',_⟩|⟨b,cs,T,q1,q2,q3,q4,q5,q6⟩
      ·rw[hμ]at hn';cases hn'
      rw[hμ]at q1;cases q1;rw[hb]at q2;cases q2;have hlen0:(xs.take len).length=len:=by simp;omega
      have hgetx:∀{i:Nat} {el:List D},(xs.take len)[i]?=some el→xs[i]?=some el:=by
       intro i el hi;have:i<len:=by have:=(kp9.1 hi).1;omega
       rwa [ks5 this]at hi
      have hls:len*e.size≤cs0.size:=kD2 (kv6 _ hcap) hcs;have hrows:mY w (Mut μ h) e.size (xs.take len) (cs0.toList.take (len*e.size)):=by
       refine⟨by simp[hlen0];omega,fun v hv=>q4 v (by simpa using List.mem_of_mem_take hv),fun i el hi=>q5 i el (hgetx hi),fun i j el x hi hj=>?_⟩;obtain⟨v,a1,a2⟩:=q6 i j el x (hgetx hi) hj;refine⟨v,?_,a2⟩;have hil:i<len:=by have:=(kp9.1 hi).1;omega
       have hjl:j<e.size:=by have:=(kp9.1 hj).1;rw[q5 i el (hgetx hi)]at this;exact this
       have:i*e.size+e.size≤len*e.size:=by rw[←Nat.succ_mul];exact kv6 _ hil
       rw[ks5 (by omega)];simpa using a1
      have holds:∀(j:Nat) (v:Value),(cs0.toList.take (len*e.size))[j]?=some v→w.cell? ((⟨b0,0,none⟩:Addr).add j)=some v:=by
       intro j v hv;have hj:j<len*e.size:=by have:=(kp9.1 hv).1;simp at this;omega
       rw[ks5 hj]at hv;rw[gW,kt2,pI hb];simpa using hv
      by_cases hroom:len+ys.length≤cap0
      ·-- in place
       have hfitn:len*e.size+news.length≤cs0.size:=by rw[hnews.len,←kA6];exact kD2 (kv6 _ hroom) hcs
       obtain⟨w',cs',hst,hrow,hsz',hall⟩:=xF (P:=P) b0 (len*e.size) T0 news 0 cs0 w hb (by omega) hnews.one;have hrun:(Builtin.append_ #[t,t] ty #[.slice (some ⟨b0,0,none⟩) len cap0,.slice A ys.length c]).run P w = .ok (.slice (some ⟨b0,0,none⟩) (len+ys.length) cap0) w':=by
        by_cases e0:ys=[]
        ·subst e0;have hn0:news=[]:=List.eq_nil_of_length_eq_zero (by simpa using hnews.len);subst hn0;have hww:w'=w:=by simp[storeCells]at hst;exact hst.symm
         subst hww;cases A with
         |none=>simp[Builtin.append_,run_underlying h2,sizeOf,typeInfo,g1,Builtin.lenOf,Builtin.firstCells,hcap,storeCells,Result.andThen]
         |some ad=>simp[Builtin.append_,run_underlying h2,sizeOf,typeInfo,g1,Builtin.lenOf,Builtin.firstCells,hcap,loadCells,loadCellsFrom,storeCells,Result.andThen]
        ·obtain⟨ad,rfl⟩:=hAsome e0;have hf:=run_firstCells_some (P:=P) w E.size ys.length ad ys.length c news (by rw[hlen]) (hcells ad rfl);have hst':(storeCells ⟨b0,len*E.size,none⟩ news).run P w = .ok () w':=by rw[←g3];exact hst
         have hadd:(⟨b0,0,none⟩:Addr).add (len*E.size)=⟨b0,len*E.size,none⟩:=by rw[gW,kt2]
         simp[Builtin.append_,run_underlying h2,sizeOf,typeInfo,g1,Builtin.lenOf,hroom,hf,hadd,hst',Result.andThen]
       have B:rD w μ id w' μ:=⟨hrow.os,hrow.tape,hrow.output,Nat.le_of_eq hrow.size.symm,fun b hb' hne=>hrow.other b (fun e=>hne (e▸hμ)),fun b c T fr hb'=>by
         by_cases e:b=b0
         ·subst e;rw[hb]at hb';cases hb';exact⟨cs',_,hrow.row,hsz'⟩
         ·exact⟨c,_,(hrow.other b e).trans hb',rfl⟩,fun _ _=>rfl,rfl,fun b hb'=>.inl hb'⟩
       have hra:=hrows.append hnews;simp only[Nat.add_zero]at hall;have hcsget:∀k,k<(len+ys.length)*e.size→cs'[k]?=(cs0.toList.take (len*e.size)++news)[k]?:=by
        intro k hk;rw[hall k,List.getElem?_append];have:(cs0.toList.take (len*e.size)).length=len*e.size:=by simp;omega
        rw[this];by_cases c1:k<len*e.size
        ·rw[if_neg (by omega),if_pos c1,ks5 c1];simp
        ·rw[if_pos ⟨by omega,by rw[hnews.len,←kA6];exact hk⟩,if_neg c1]
       refine⟨_,w',μ,hrun,H.bump B hid (.inr ⟨b0,cs',T0,hμ,hrow.row,?_,?_,hra.wide,?_⟩),?_,rfl,ko7 B hid⟩
       ·rw[hsz',kq3,hlen0];exact kD2 (kv6 _ hroom) hcs
       ·intro u hu;obtain⟨q,hq,rfl⟩:=Array.getElem_of_mem hu;have:=hall q;rw[Array.getElem?_eq_getElem hq]at this;split at this
        ·exact hnews.one _ (List.mem_of_getElem? this.symm)
        ·exact q4 _ (Array.mem_of_getElem? this.symm)
       ·intro i j el x hi hj;obtain⟨v,a1,a2⟩:=hra.cell i j el x hi hj;refine⟨v,?_,a2⟩;rw[hcsget _ ?_]
        ·exact a1
        ·have:=(kp9.1 a1).1;rw[hra.len,kq3,hlen0]at this;exact this
       ·exact .own hget (by rw[kq3,hlen0];exact ks0 _) hμ hroom hrow.row (by rw[hsz'];exact hcs)
      ·-- grown
       have hne:ys≠[]:=by rintro rfl;simp at hroom;omega
       obtain⟨ad,rfl⟩:=hAsome hne;have hrun:=run_append_grow (P:=P) w t ty et E z h2 g1 hz ⟨b0,0,none⟩ len cap0 (cs0.toList.take (len*e.size)) (by rw[hrows.len,hlen0,g3]) holds ad ys.length c news hlen (hcells ad rfl) (by omega) (by omega) (zp2 (by omega) (by rw[←g4];exact hb1));have hge:=grownCap_ge w (len+ys.length) cap0 et;obtain⟨r1,r2,r3⟩:=grow (cs0.toList.take (len*e.size)) cap0 (grownCap w (len+ys.length) cap0 et) hrows hlen0 hge _ rfl;exact⟨_,_,_,hrun,r1,r2,rfl,r3⟩
     |ownOld hid' hv=>rw[hid]at hid';cases hid';omega
     |ownDead hid'=>rw[hid]at hid';cases hid'
    ·cases ha
   ·cases ha
  ·cases ha
 ·cases ha
end Go.Vt
