import Derived.Test.YtdabfkmhkoppcaaGreatDoorVtMem
set_option linter.all false
open Array renaming getElem?_eq_some_iff→kg7,size_append→kp2
open List renaming getElem?_eq_some_iff→kd6,getElem?_set_ne→kh7,getElem?_take_of_lt→kg4,length_append→ke1,length_pos_iff→kv7,size_toArray→kp5
open Nat renaming add_mul→ks9,le_refl→kf2,le_trans→kq9,mul_le_mul_right→kj2,zero_add→kh8
namespace Go.Vt
variable {P:Program} {w w':World} {μ μ':Pl} {h:aB}
theorem aW.blockLt (H:aW w μ h) {id b:Nat} {o:aN} (ho:h[id]?=some o) (ht:o.there=true) (hm:μ id=some b):b<w.heap.size:=by
 cases o with
 |bx ty cells=>obtain⟨b',cs,T,a1,a2,_⟩:=H.box _ _ ho;rw[hm]at a1;cases a1;exact(kg7.1 a2).1
 |ar ty fz sz ver xs=>
  rcases H.arr _ _ _ _ _ ho with⟨hn',_⟩|⟨b',cs,T,a1,a2,_⟩
  ·rw[hm]at hn';cases hn'
  ·rw[hm]at a1;cases a1;exact(kg7.1 a2).1
 |dead=>cases ht
structure pZ (w:World) (μ:Pl) (id:Nat) (w':World) (μ':Pl):Prop where
 os:w'.os=w.os
 tape:w'.tape=w.tape
 output:w'.output=w.output
 size:w.heap.size≤w'.heap.size
 block:∀b,b<w.heap.size→μ id≠some b→w'.heap[b]?=w.heap[b]?
 shape:∀(b:Nat) (cs:Array Value) (T:TypeId) (fr:Nat×Nat),w.heap[b]?=some (Obj.cells cs T fr)→∃(cs':Array Value) (fr':Nat×Nat),w'.heap[b]?=some (Obj.cells cs' T fr')∧cs'.size=cs.size
 others:∀k,k≠id→μ' k=μ k
 out:μ'.X=μ.X
 at_:∀b,μ' id=some b→μ id=some b∨w.heap.size≤b
theorem kc5 {id sz ver:Nat} {ty:Option TypeId} {xs xs':List (List D)} {sz':Nat} (B:pZ w μ id w' μ') (hid:h[id]?=some (.ar ty false sz ver xs)):Good w μ h w' μ' (h.set id (.ar ty false sz' (ver+1) xs')) where
 os:=B.os
 tape:=B.tape
 output:=B.output
 size:=B.size
 out:=B.out
 block b hb hn:=B.block b hb (fun e=>hn ⟨id,_,hid,rfl,e⟩)
 shape:=B.shape
 fresh b hb:=by
  obtain⟨k,o,h1,h2,h3⟩:=hb;rcases gK h1 with⟨rfl,rfl⟩|⟨hne,h1⟩
  ·rcases B.at_ b h3 with e|e
   ·exact .inl ⟨_,_,hid,rfl,e⟩
   ·exact .inr e
  ·rw[B.others k hne]at h3;exact .inl ⟨k,o,h1,h2,h3⟩
 len:=by simp
 boxes k ty cells hb:=by
  have e:k≠id:=by rintro rfl;rw[hid]at hb;cases hb
  exact .inr ⟨cells,_,by rw[kh7 (Ne.symm e)];exact hb,rfl,B.others k e⟩
 arrs k ty fz sz0 ver0 xs0 hb:=by
  by_cases e:k=id
  ·subst e;rw[hid]at hb;cases hb;exact .inr ⟨false,sz',ver+1,xs',ty,by simp[(kd6.1 hid).1],.inr (by omega)⟩
  ·exact .inr ⟨fz,sz0,ver0,xs0,_,by rw[kh7 (Ne.symm e)];exact hb,.inl ⟨rfl,rfl,rfl,B.others k e⟩⟩
 deads k hb:=by
  have e:k≠id:=by rintro rfl;rw[hid]at hb;cases hb
  rw[kh7 (Ne.symm e)];exact hb
theorem aW.bump {id sz ver:Nat} {ty:Option TypeId} {xs xs':List (List D)} {sz':Nat} (H:aW w μ h) (B:pZ w μ id w' μ') (hid:h[id]?=some (.ar ty false sz ver xs))
  (hnew:(μ' id=none∧xs'=[])∨∃b cs T,μ' id=some b∧w'.heap[b]?=some (.cells cs T (0,0))∧xs'.length*sz'≤cs.size∧(∀v∈cs,v.oneCell'=true)∧(∀(i:Nat) (e:List D),xs'[i]?=some e→e.length=sz')∧
   ∀(i j:Nat) (e:List D) (x:D),xs'[i]?=some e→e[j]?=some x→∃v,cs[i*sz'+j]?=some v∧cQ w (Mut μ h) x v)
  (hty:∀b,μ' id=some b→(aN.ar ty false sz' (ver+1) xs').tyOk w' b:=by intros;trivial) :
  aW w' μ' (h.set id (.ar ty false sz' (ver+1) xs')):=by
 have g:Good w μ h w' μ' (h.set id (.ar ty false sz' (ver+1) xs')):=kc5 B hid;have same:∀{k b:Nat} {o:aN},h[k]?=some o→o.there=true→k≠id→μ k=some b→w'.heap[b]?=w.heap[b]?:=by
  intro k b o ho ht hne hm;refine B.block b (H.blockLt ho ht hm) (fun e=>hne ?_);exact(H.apart _ _ _ _ _ hid ho rfl ht e hm).symm
 refine⟨?_,?_,?_,?_,?_,fun i o b hi m1=>by
  rcases gK hi with⟨e1,e2⟩|⟨hne,hi1⟩
  ·subst e1;subst e2;exact hty b m1
  ·rw[B.others i hne]at m1;exact(H.ty _ _ _ hi1 m1).good g⟩
 ·intro k ty cells hk;rcases gK hk with⟨_,e⟩|⟨hne,hk⟩
  ·cases e
  ·obtain⟨b,cs,T,h1,h2,h3,h4,h5⟩:=H.box _ _ hk;exact⟨b,cs,T,(B.others k hne).trans h1,(same hk rfl hne h1).trans h2,h3,h4,fun j l v hj hv=>(h5 j l v hj hv).good g⟩
 ·intro k ty fz sz0 ver0 xs0 hk;rcases gK hk with⟨rfl,e⟩|⟨hne,hk⟩
  ·cases e;rcases hnew with hn|⟨b,cs,T,h1,h2,h3,h4,h5,h6⟩
   ·exact .inl hn
   ·exact .inr ⟨b,cs,T,h1,h2,h3,h4,h5,fun i j e x hi hj=>let ⟨v,a,d⟩:=h6 i j e x hi hj;⟨v,a,d.good g⟩⟩
  ·rcases H.arr _ _ _ _ _ hk with⟨hn,hx⟩|⟨b,cs,T,h1,h2,h3,h4,h5,h6⟩
   ·exact .inl ⟨(B.others k hne).trans hn,hx⟩
   ·exact .inr ⟨b,cs,T,(B.others k hne).trans h1,(same hk rfl hne h1).trans h2,h3,h4,h5,fun i j e x hi hj=>let ⟨v,a,d⟩:=h6 i j e x hi hj;⟨v,a,d.good g⟩⟩
 ·intro i j o o' b hi hj t1 t2 m1 m2;rcases gK hi with⟨e1,_⟩|⟨hne,hi1⟩<;>rcases gK hj with⟨e2,_⟩|⟨hne',hj1⟩
  ·rw[e1,e2]
  ·subst e1;rw[B.others j hne']at m2;rcases B.at_ b m1 with e|e
   ·exact H.apart _ _ _ _ b hid hj1 rfl t2 e m2
   ·have:=H.blockLt hj1 t2 m2;omega
  ·subst e2;rw[B.others i hne]at m1;rcases B.at_ b m2 with e|e
   ·exact H.apart _ _ _ _ b hi1 hid t1 rfl m1 e
   ·have:=H.blockLt hi1 (kb2 t1) m1;omega
  ·rw[B.others i hne]at m1;rw[B.others j hne']at m2;exact H.apart _ _ _ _ b hi1 hj1 t1 t2 m1 m2
 ·intro i o b hi t1 m1;rw[B.out];rcases gK hi with⟨e1,_⟩|⟨hne,hi1⟩
  ·subst e1;rcases B.at_ b m1 with e|e
   ·exact H.off _ _ _ hid rfl e
   ·intro hx;have:=H.old _ hx;omega
  ·rw[B.others i hne]at m1;exact H.off _ _ _ hi1 t1 m1
 ·intro b hb;rw[B.out]at hb;exact Nat.lt_of_lt_of_le (H.old b hb) B.size
theorem kc6 (w:World) (μ:Pl) (h:aB) (o:aN):Good w μ h w (μ.put h.length none) (h++[o]) where
 os:=rfl
 tape:=rfl
 output:=rfl
 size:=kf2 _
 out:=rfl
 block _ _ _:=rfl
 shape _ cs _ _ hb:=⟨cs,_,hb,rfl⟩
 fresh b hm:=by
  obtain⟨id,o',h1,h2,h3⟩:=hm;rcases jW h1 with⟨hlt,h1⟩|⟨rfl,rfl⟩
  ·rw[kc2 _ _ _ _ (by omega)]at h3;exact .inl ⟨id,o',h1,h2,h3⟩
  ·rw[kc1]at h3;cases h3
 len:=by simp
 boxes id ty cells hb:=.inr ⟨cells,ty,nS _ hb,rfl,kc2 _ _ _ _ (by have:=(kd6.1 hb).1;omega)⟩
 arrs id ty fz sz ver xs hb:=.inr ⟨fz,sz,ver,xs,ty,nS _ hb,.inl ⟨rfl,rfl,rfl,kc2 _ _ _ _ (by have:=(kd6.1 hb).1;omega)⟩⟩
 deads id hb:=nS _ hb
theorem kc7 (w:World) (μ:Pl) (h:aB) (sz:Nat):Good w μ h w (μ.put h.length none) (h++[.arr false sz 0 []]):=kc6 w μ h _
theorem aW.pushN (H:aW w μ h) {o:aN} (ho:o = .dead∨∃sz,o = .arr false sz 0 []):aW w (μ.put h.length none) (h++[o]):=by
 have g:=kc6 w μ h o;refine⟨?_,?_,?_,?_,H.old,fun i o b hi m1=>by
  rcases jW hi with⟨hlt,hi1⟩|⟨e1,e2⟩
  ·rw[kc2 _ _ _ _ (by omega)]at m1;exact(H.ty _ _ _ hi1 m1).good g
  ·rw[e1,kc1]at m1;cases m1⟩
 ·intro id ty cells hid;rcases jW hid with⟨hlt,hid⟩|⟨_,e⟩
  ·obtain⟨b,cs',T',h1,h2,h3,h4,h5⟩:=H.box _ _ hid;exact⟨b,cs',T',by rw[kc2 _ _ _ _ (by omega)];exact h1,h2,h3,h4,fun j l v hj hv=>(h5 j l v hj hv).good g⟩
  ·rcases ho with ho|⟨sz,ho⟩<;>rw[ho]at e<;>cases e
 ·intro id ty fz sz' ver xs hid;rcases jW hid with⟨hlt,hid⟩|⟨rfl,e⟩
  ·rw[kc2 _ _ _ _ (by omega)];rcases H.arr _ _ _ _ _ hid with hn|⟨b,cs',T',h1,h2,h3,h4,h5,h6⟩
   ·exact .inl hn
   ·exact .inr ⟨b,cs',T',h1,h2,h3,h4,h5,fun i j e x hi hj=>let ⟨v,a,b⟩:=h6 i j e x hi hj;⟨v,a,b.good g⟩⟩
  ·rcases ho with ho|⟨sz,ho⟩<;>rw[ho]at e<;>cases e;exact .inl ⟨kc1 _ _ _,rfl⟩
 ·intro i j o1 o2 b hi hj t1 t2 m1 m2;rcases jW hi with⟨hlt,hi1⟩|⟨e1,_⟩<;>rcases jW hj with⟨hlt',hj1⟩|⟨e2,_⟩
  ·rw[kc2 _ _ _ _ (by omega)]at m1 m2;exact H.apart i j o1 o2 b hi1 hj1 t1 t2 m1 m2
  ·rw[e2,kc1]at m2;cases m2
  ·rw[e1,kc1]at m1;cases m1
  ·rw[e1,e2]
 ·intro i o1 b hi t1 m1;rcases jW hi with⟨hlt,hi1⟩|⟨e1,_⟩
  ·rw[kc2 _ _ _ _ (by omega)]at m1;exact H.off i o1 b hi1 t1 m1
  ·rw[e1,kc1]at m1;cases m1
theorem aW.pushNone (H:aW w μ h) (sz:Nat):aW w (μ.put h.length none) (h++[.arr false sz 0 []]):=H.pushN (.inr ⟨sz,rfl⟩)
theorem Good.drew (w:World) (μ:Pl) (h:aB):Good w μ h w.drew μ h:=
 ⟨rfl,rfl,rfl,kf2 _,rfl,fun _ _ _=>rfl,fun _ cs _ _ hb=>⟨cs,_,hb,rfl⟩,fun _ hm=>.inl hm,kf2 _,
  fun _ ty cells hb=>.inr ⟨cells,ty,hb,rfl,rfl⟩,fun _ ty fz sz ver xs hb=>.inr ⟨fz,sz,ver,xs,ty,hb,.inl ⟨rfl,rfl,rfl,rfl⟩⟩,fun _ hb=>hb⟩
theorem aW.drew (H:aW w μ h):aW w.drew μ h:=by
 have g:=Good.drew w μ h;refine⟨?_,?_,H.apart,H.off,H.old,fun i o b hi hb=>(H.ty i o b hi hb).good g⟩
 ·intro id ty cells hid;obtain⟨b,cs,T,h1,h2,h3,h4,h5⟩:=H.box _ _ hid;exact⟨b,cs,T,h1,h2,h3,h4,fun j l v hj hv=>(h5 j l v hj hv).good g⟩
 ·intro id ty fz sz ver xs hid;rcases H.arr _ _ _ _ _ hid with hn|⟨b,cs,T,h1,h2,h3,h4,h5,h6⟩
  ·exact .inl hn
  ·exact .inr ⟨b,cs,T,h1,h2,h3,h4,h5,fun i j e x hi hj=>let ⟨v,a,d⟩:=h6 i j e x hi hj;⟨v,a,d.good g⟩⟩
theorem zk8 {x:Value} {z:V} (hz:iT x=some z):∀v∈x.cells,v.oneCell'=true:=by
 intro v hv;unfold iT at hz;split at hz
 ·rename_i cs;cases hc:mT cs.toList with
  |none=>simp[hc]at hz
  |some ls=>exact(zi3 (w:=default) (μ:=⟨fun _=>none,fun _=>False⟩) (h:=[]) hc).2.1 v (by simpa[Value.cells]using hv)
 ·cases hc:nP x with
  |none=>simp[hc]at hz
  |some l=>
   have h1:=(zK (w:=default) (μ:=⟨fun _=>none,fun _=>False⟩) (h:=[]) hc).2;have:x.cells=#[x]:=by cases x<;>first|rfl|cases h1
   rw[this]at hv;simp at hv;rw[hv];exact h1
theorem zV {z:Array Value} (hz:∀v∈z,v.oneCell'=true) (n:Nat):∀v∈Builtin.zeroCells z n,v.oneCell'=true:=by
 intro v hv;simp only[Builtin.zeroCells,Array.mem_map,Array.mem_range]at hv;obtain⟨k,hk,rfl⟩:=hv;have hpos:0<z.size:=by rcases Nat.eq_zero_or_pos z.size with e|e;rw[e]at hk;simp at hk;exact e
 have hlt:k % z.size<z.size:=Nat.mod_lt _ hpos;rw[getElem!_pos z _ hlt];exact hz _ (Array.getElem_mem _)
theorem zk9 {need old bytes:Nat} (h:old<need) (hb:need*bytes≤aM):Builtin.nextslicecap need old*bytes≤281474976710656:=growslice_fits h (by simpa[aM]using hb)
theorem zM9:∀{xs:List Value} {ls:List L},mT xs=some ls→ls.length=xs.length
 |[],ls,hx=>by cases hx;rfl
 |x::xs,ls,hx=>by
  unfold mT at hx;split at hx
  ·rename_i l r hl hr;cases hx;simp[zM9 hr]
  ·cases hx
theorem zN0 {x:Value} {z:V} {ls:List L} (hz:iT x=some z) (hl:gJ z=some ls):ls.length=x.cells.size:=by
 unfold iT at hz;split at hz
 ·rename_i cs;cases hc:mT cs.toList with
  |none=>simp[hc]at hz
  |some l=>simp[hc]at hz;subst hz;cases hl;simpa[Value.cells]using zM9 hc
 ·cases hc:nP x with
  |none=>simp[hc]at hz
  |some l=>
   simp[hc]at hz;subst hz;cases hl;have h1:=(zK (w:=default) (μ:=⟨fun _=>none,fun _=>False⟩) (h:=[]) hc).2;have:x.cells=#[x]:=by cases x<;>first|rfl|cases h1
   rw[this];rfl
theorem zN1 {et:TypeId} {e:EI} {E:TypeInfo} (hE:gW P et=some e) (g1:P.info? et=some E) (hz:zok e=true):∃z zv,E.zero=some z∧iT z=some zv∧z.cells.size=e.size∧e.size≠0:=by
 obtain⟨E',dE,g1',g2,g3,g4,g5,g6⟩:=oT hE;rw[g1]at g1';cases g1';unfold zok at hz;split at hz
 ·rename_i zv hzv;split at hz
  ·rename_i ls hls;simp only[Bool.and_eq_true,beq_iff_eq,bne_iff_ne]at hz;rw[g5]at hzv;cases hzz:E.zero with
   |none=>simp[hzz]at hzv
   |some z=>
    have ha:iT z=some zv:=by simpa[hzz]using hzv
    exact⟨z,zv,rfl,ha,by rw[←zN0 ha hls];exact hz.1,hz.2⟩
  ·cases hz
 ·cases hz
theorem jh2 {t ty:TypeId} {i:TI} {e:EI} (ht:ti P t=some i) (he:i.el=some e) (H:aW w μ h) {ls lx l:L} {ys:List (List D)} {sv xv:Value} {h':aB}
  (hs:bE w μ h ls sv) (hx:bE w μ h lx xv) (hy:nU h lx=some ys) (ha:tH h e ls ys=some (l,h')) :
  ∃v' w' μ',(Builtin.append_ #[t,t] ty #[sv,xv]).run P w = .ok v' w'∧aW w' μ' h'∧bE w' μ' h' l v'∧v'.oneCell'=true∧Good w μ h w' μ' h':=by
 obtain⟨I,d,h1,h2,h3,h4,h5,h6,h7,h8,h9,h10,_⟩:=fF ht;obtain⟨et,rfl⟩:=h10 (by rw[he];rfl);have hE:gW P et=some e:=by rw[←h9 et rfl];exact he
 obtain⟨E,dE,g1,g2,g3,g4,g5,g6⟩:=oT hE;unfold tH at ha;split at ha
 ·rename_i hc;obtain⟨hal,hzs⟩:=hc;obtain⟨A,c,news,rfl,hnews,hnil,hcells⟩:=zM8 H hx hy hal;obtain⟨z,zv,hz,hzv,hzsz,hsz0⟩:=zN1 hE g1 hzs;have hz1:=zk8 hzv;have hlen:news.length=ys.length*E.size:=by rw[hnews.len,g3]
  have newb:∀(olds:List Value) (rows:List (List D)) (n cap:Nat),lT w (Mut μ h) e.size rows olds→rows.length=n→n+ys.length≤cap→
    (rows++ys).length*e.size≤(olds.toArray++news.toArray++Builtin.zeroCells z.cells (cap-(n+ys.length))).size∧
    (∀v∈(olds.toArray++news.toArray++Builtin.zeroCells z.cells (cap-(n+ys.length))),v.oneCell'=true)∧
    (∀(i:Nat) (el:List D),(rows++ys)[i]?=some el→el.length=e.size)∧
    ∀(i j:Nat) (el:List D) (x:D),(rows++ys)[i]?=some el→el[j]?=some x→∃v,(olds.toArray++news.toArray++Builtin.zeroCells z.cells (cap-(n+ys.length)))[i*e.size+j]?=some v∧cQ w (Mut μ h) x v:=by
   intro olds rows n cap ho hn hcap;have hra:=ho.append hnews;refine⟨?_,?_,hra.wide,?_⟩
   ·have:=hra.len;simp at this ⊢;omega
   ·intro v hv;simp only[Array.mem_append,List.mem_toArray]at hv;rcases hv with(hv|hv)|hv
    ·exact ho.one v hv
    ·exact hnews.one v hv
    ·exact zV hz1 _ v hv
   ·intro i j el x hi hj;obtain⟨v,a1,a2⟩:=hra.cell i j el x hi hj;refine⟨v,?_,a2⟩;have hlt:=(kd6.1 a1).1;rw[Array.getElem?_append_left (by simpa using hlt)];simpa using a1
  have nilcase:∀w0:World,ys=[]→(Builtin.append_ #[t,t] ty #[.slice none 0 0,.slice A ys.length c]).run P w0 = .ok (.slice none 0 0) w0:=by
   intro w0 e0;subst e0;cases A with
   |none=>simp[Builtin.append_,run_underlying h2,sizeOf,typeInfo,g1,Builtin.lenOf,Builtin.firstCells,Result.andThen]
   |some ad=>simp[Builtin.append_,run_underlying h2,sizeOf,typeInfo,g1,Builtin.lenOf,Builtin.firstCells,loadCells,loadCellsFrom,Result.andThen]
  have hAsome:ys≠[]→∃ad,A=some ad:=by
   intro hne;cases A with
   |none=>exact absurd (hnil rfl) hne
   |some ad=>exact⟨ad,rfl⟩
  split at ha
  ·-- nil
   split at ha
   ·rename_i hb;cases ha;cases hs;by_cases e0:ys=[]
    ·subst e0;exact⟨_,w,_,nilcase w rfl,H.pushNone _,.ownNil (ty:=none) (fz:=false) (sz:=e.size) (xs:=[]) (by simp) (kc1 _ _ _),rfl,kc7 _ _ _ _⟩
    ·obtain⟨ad,rfl⟩:=hAsome e0;have hpos:0<ys.length:=kv7.2 e0;have hrun:=run_append_nil (P:=P) w t ty et E z h2 g1 hz ad ys.length c news hlen (hcells ad rfl) hpos (by have:=hb.2;simp only[aM]at this;omega) (by have:=hb.1;rw[g4]at this;simp only[aM]at this;omega);have hge:=grownCap_ge w ys.length 0 et;obtain⟨n1,n2,n3,n4⟩:=newb [] [] 0 (grownCap w ys.length 0 et) ⟨by simp,by simp,by simp,by simp⟩ rfl (by omega);simp only[kh8,List.nil_append]at n1 n2 n3 n4;have hcs:(([]:List Value).toArray++news.toArray++Builtin.zeroCells z.cells (grownCap w ys.length 0 et-ys.length))=(news.toArray++Builtin.zeroCells z.cells (grownCap w ys.length 0 et-ys.length)):=by simp
     rw[hcs]at n1 n2 n4;have Hd:=H.drew;have gd:=Good.drew w μ h;refine⟨_,_,_,hrun,Hd.push (o:=.arr false e.size 0 ys) ⟨n1,n2,n3,fun i j el x hi hj=>let ⟨v,a,b⟩:=n4 i j el x hi hj;⟨v,a,b.good gd⟩⟩,?_,rfl,gd.trans (Good.push _ _ _ _ _)⟩;refine .own (ty:=none) (fz:=false) (sz:=e.size) (xs:=ys) (by simp) (kf2 _) (kc1 _ _ _) hge (heap_alloc_new w.drew _) ?_;have:=hnews.len;simp only[kp2,kp5,size_zeroCells,hzsz,this,←ks9];apply kj2;omega
   ·cases ha
  ·-- own
   rename_i id ver len;split at ha
   ·rename_i sz ver' xs hid;split at ha
    ·rename_i hb;obtain⟨rfl,rfl,hb1,hb2⟩:=hb;cases ha;have hidl:=(kd6.1 hid).1;have hget:(h.set id (.arr false e.size (ver'+1) (xs.take len++ys)))[id]?=some (.arr false e.size (ver'+1) (xs.take len++ys)):=by simp[hidl]
     have hb2':len+ys.length≤140737488355328:=by simpa[aM]using hb2
     have grow:∀(olds:List Value) (old cap:Nat) (hrows:lT w (Mut μ h) e.size (xs.take len) olds) (hlen0:(xs.take len).length=len) (hcap:len+ys.length≤cap) (cs:Array Value),cs=olds.toArray++news.toArray++Builtin.zeroCells z.cells (cap-(len+ys.length))→
       aW (w.drew.alloc (.cells cs et)) (μ.put id (some w.heap.size)) (h.set id (.arr false e.size (ver'+1) (xs.take len++ys)))∧
       bE (w.drew.alloc (.cells cs et)) (μ.put id (some w.heap.size)) (h.set id (.arr false e.size (ver'+1) (xs.take len++ys))) (.own id (ver'+1) (len+ys.length)) (.slice (some ⟨w.heap.size,0,none⟩) (len+ys.length) cap)∧
       Good w μ h (w.drew.alloc (.cells cs et)) (μ.put id (some w.heap.size)) (h.set id (.arr false e.size (ver'+1) (xs.take len++ys))):=by
      intro olds old cap hrows hlen0 hcap cs hcs;obtain⟨n1,n2,n3,n4⟩:=newb olds (xs.take len) len cap hrows hlen0 hcap;rw[←hcs]at n1 n2 n4;have hheap:(w.drew.alloc (.cells cs et)).heap[w.heap.size]?=some (.cells cs et (0,0)):=heap_alloc_new w.drew _;have B:pZ w μ id (w.drew.alloc (.cells cs et)) (μ.put id (some w.heap.size)):=
       ⟨rfl,rfl,rfl,by simp,fun b hb _=>Go.RowKit.Below.heap_alloc w.drew _ b hb,fun b c T fr hb=>⟨c,_,(Go.RowKit.Below.heap_alloc w.drew _ b (kg7.1 hb).1).trans hb,rfl⟩,fun k hk=>kc2 _ _ _ _ hk,rfl,fun b hb=>by rw[kc1]at hb;cases hb;exact .inr (kf2 _)⟩
      refine⟨H.bump B hid (.inr ⟨w.heap.size,cs,et,kc1 _ _ _,hheap,n1,n2,n3,n4⟩),?_,kc5 B hid⟩;refine .own hget (by rw[ke1,hlen0];exact kf2 _) (kc1 _ _ _) hcap hheap ?_;have e1:=hrows.len;have e2:=hnews.len;rw[hlen0]at e1;rw[hcs];simp only[kp2,kp5,size_zeroCells,hzsz,e1,e2,←ks9];apply kj2;omega
     cases hs with
     |ownNil hid' hμ=>
      by_cases e0:ys=[]
      ·subst e0;have B:pZ w μ id w μ:=⟨rfl,rfl,rfl,kf2 _,fun _ _ _=>rfl,fun _ c _ _ hb=>⟨c,_,hb,rfl⟩,fun _ _=>rfl,rfl,fun b hb=>.inl hb⟩;refine⟨_,w,μ,nilcase w rfl,H.bump B hid (.inl ⟨hμ,by simp⟩),?_,rfl,kc5 B hid⟩;exact .ownNil hget hμ
      ·obtain⟨ad,rfl⟩:=hAsome e0;have hpos:0<ys.length:=kv7.2 e0;have hrun:=run_append_nil (P:=P) w t ty et E z h2 g1 hz ad ys.length c news hlen (hcells ad rfl) hpos (by omega) (by rw[kh8]at hb1;rw[g4]at hb1;simp only[aM]at hb1;omega);have hge:=grownCap_ge w ys.length 0 et;obtain⟨r1,r2,r3⟩:=grow [] 0 (grownCap w ys.length 0 et) ⟨by simp,by simp,by simp,by simp⟩ (by simp) (by omega) (news.toArray++Builtin.zeroCells z.cells (grownCap w ys.length 0 et-ys.length)) (by simp);rw[kh8]at r2;exact⟨_,_,_,hrun,r1,by rw[kh8];exact r2,rfl,r3⟩
     |@own _ _ _ _ _ _ _ _ b0 cap0 cs0 T0 hid' hl hμ hcap hb hcs=>
      rw[hid]at hid';cases hid';rcases H.arr _ _ _ _ _ hid with⟨hn',_⟩|⟨b,cs,T,q1,q2,q3,q4,q5,q6⟩
      ·rw[hμ]at hn';cases hn'
      rw[hμ]at q1;cases q1;rw[hb]at q2;cases q2;have hlen0:(xs.take len).length=len:=by simp;omega
      have hgetx:∀{i:Nat} {el:List D},(xs.take len)[i]?=some el→xs[i]?=some el:=by
       intro i el hi;have:i<len:=by have:=(kd6.1 hi).1;omega
       rwa [kg4 this]at hi
      have hls:len*e.size≤cs0.size:=kq9 (kj2 _ hcap) hcs;have hrows:lT w (Mut μ h) e.size (xs.take len) (cs0.toList.take (len*e.size)):=by
       refine⟨by simp[hlen0];omega,fun v hv=>q4 v (by simpa using List.mem_of_mem_take hv),fun i el hi=>q5 i el (hgetx hi),fun i j el x hi hj=>?_⟩;obtain⟨v,a1,a2⟩:=q6 i j el x (hgetx hi) hj;refine⟨v,?_,a2⟩;have hil:i<len:=by have:=(kd6.1 hi).1;omega
       have hjl:j<e.size:=by have:=(kd6.1 hj).1;rw[q5 i el (hgetx hi)]at this;exact this
       have:i*e.size+e.size≤len*e.size:=by rw[←Nat.succ_mul];exact kj2 _ hil
       rw[kg4 (by omega)];simpa using a1
      have holds:∀(j:Nat) (v:Value),(cs0.toList.take (len*e.size))[j]?=some v→w.cell? ((⟨b0,0,none⟩:Addr).add j)=some v:=by
       intro j v hv;have hj:j<len*e.size:=by have:=(kd6.1 hv).1;simp at this;omega
       rw[kg4 hj]at hv;rw[fW,kh8,oU hb];simpa using hv
      by_cases hroom:len+ys.length≤cap0
      ·-- in place
       have hfitn:len*e.size+news.length≤cs0.size:=by rw[hnews.len,←ks9];exact kq9 (kj2 _ hroom) hcs
       obtain⟨w',cs',hst,hrow,hsz',hall⟩:=vR (P:=P) b0 (len*e.size) T0 news 0 cs0 w hb (by omega) hnews.one;have hrun:(Builtin.append_ #[t,t] ty #[.slice (some ⟨b0,0,none⟩) len cap0,.slice A ys.length c]).run P w = .ok (.slice (some ⟨b0,0,none⟩) (len+ys.length) cap0) w':=by
        by_cases e0:ys=[]
        ·subst e0;have hn0:news=[]:=List.eq_nil_of_length_eq_zero (by simpa using hnews.len);subst hn0;have hww:w'=w:=by simp[storeCells]at hst;exact hst.symm
         subst hww;cases A with
         |none=>simp[Builtin.append_,run_underlying h2,sizeOf,typeInfo,g1,Builtin.lenOf,Builtin.firstCells,hcap,storeCells,Result.andThen]
         |some ad=>simp[Builtin.append_,run_underlying h2,sizeOf,typeInfo,g1,Builtin.lenOf,Builtin.firstCells,hcap,loadCells,loadCellsFrom,storeCells,Result.andThen]
        ·obtain⟨ad,rfl⟩:=hAsome e0;have hf:=run_firstCells_some (P:=P) w E.size ys.length ad ys.length c news (by rw[hlen]) (hcells ad rfl);have hst':(storeCells ⟨b0,len*E.size,none⟩ news).run P w = .ok () w':=by rw[←g3];exact hst
         have hadd:(⟨b0,0,none⟩:Addr).add (len*E.size)=⟨b0,len*E.size,none⟩:=by rw[fW,kh8]
         simp[Builtin.append_,run_underlying h2,sizeOf,typeInfo,g1,Builtin.lenOf,hroom,hf,hadd,hst',Result.andThen]
       have B:pZ w μ id w' μ:=⟨hrow.os,hrow.tape,hrow.output,Nat.le_of_eq hrow.size.symm,fun b hb' hne=>hrow.other b (fun e=>hne (e▸hμ)),fun b c T fr hb'=>by
         by_cases e:b=b0
         ·subst e;rw[hb]at hb';cases hb';exact⟨cs',_,hrow.row,hsz'⟩
         ·exact⟨c,_,(hrow.other b e).trans hb',rfl⟩,fun _ _=>rfl,rfl,fun b hb'=>.inl hb'⟩
       have hra:=hrows.append hnews;simp only[Nat.add_zero]at hall;have hcsget:∀k,k<(len+ys.length)*e.size→cs'[k]?=(cs0.toList.take (len*e.size)++news)[k]?:=by
        intro k hk;rw[hall k,List.getElem?_append];have:(cs0.toList.take (len*e.size)).length=len*e.size:=by simp;omega
        rw[this];by_cases c1:k<len*e.size
        ·rw[if_neg (by omega),if_pos c1,kg4 c1];simp
        ·rw[if_pos ⟨by omega,by rw[hnews.len,←ks9];exact hk⟩,if_neg c1]
       refine⟨_,w',μ,hrun,H.bump B hid (.inr ⟨b0,cs',T0,hμ,hrow.row,?_,?_,hra.wide,?_⟩),?_,rfl,kc5 B hid⟩
       ·rw[hsz',ke1,hlen0];exact kq9 (kj2 _ hroom) hcs
       ·intro u hu;obtain⟨q,hq,rfl⟩:=Array.getElem_of_mem hu;have:=hall q;rw[Array.getElem?_eq_getElem hq]at this;split at this
        ·exact hnews.one _ (List.mem_of_getElem? this.symm)
        ·exact q4 _ (Array.mem_of_getElem? this.symm)
       ·intro i j el x hi hj;obtain⟨v,a1,a2⟩:=hra.cell i j el x hi hj;refine⟨v,?_,a2⟩;rw[hcsget _ ?_]
        ·exact a1
        ·have:=(kd6.1 a1).1;rw[hra.len,ke1,hlen0]at this;exact this
       ·exact .own hget (by rw[ke1,hlen0];exact kf2 _) hμ hroom hrow.row (by rw[hsz'];exact hcs)
      ·-- grown
       have hne:ys≠[]:=by rintro rfl;simp at hroom;omega
       obtain⟨ad,rfl⟩:=hAsome hne;have hrun:=run_append_grow (P:=P) w t ty et E z h2 g1 hz ⟨b0,0,none⟩ len cap0 (cs0.toList.take (len*e.size)) (by rw[hrows.len,hlen0,g3]) holds ad ys.length c news hlen (hcells ad rfl) (by omega) (by omega) (zk9 (by omega) (by rw[←g4];exact hb1));have hge:=grownCap_ge w (len+ys.length) cap0 et;obtain⟨r1,r2,r3⟩:=grow (cs0.toList.take (len*e.size)) cap0 (grownCap w (len+ys.length) cap0 et) hrows hlen0 hge _ rfl;exact⟨_,_,_,hrun,r1,r2,rfl,r3⟩
     |ownOld hid' hv=>rw[hid]at hid';cases hid';omega
     |ownDead hid'=>rw[hid]at hid';cases hid'
    ·cases ha
   ·cases ha
  ·cases ha
 ·cases ha
end Go.Vt
