import Derived.Test.YtdabfkmhkoppcaaGreatDoorVtMem6
set_option linter.all false
open Array renaming getElem?_eq_getElem→ks6,getElem_of_mem→kz6,mem_of_getElem?→kA0,toList_inj→kv9,toList_map→kJ0
open List renaming all_eq_true→ku0,getElem?_append→kB3,getElem?_drop→kv4,getElem?_eq_some_iff→kp9,getElem?_map→ks1,getElem?_replicate→kB1,getElem?_take_of_lt→ks5,mem_of_getElem?→kq0,mem_of_mem_take→ky1,replicate→kw8,take_zero→kw1
open Nat renaming le_refl→ks0,mul_le_mul_right→kv6,succ_mul→kD3
namespace Go.Vt
set_option linter.unusedSectionVars false
set_option linter.unusedVariables false
variable [cJ]
variable {P:Program} {w:World} {μ:Pl} {h:aB} {T:Sl} {a:Act}
theorem jq5 {t:TypeId} {i:TI} {e:EI} (ht:ti P t=some i) (he:i.el=some e) (H:aR w μ h) {n:Int} {kl kc:IntKind} (h0:0≤n) (hb:(e.bytes:Int)*n≤281474976710656) (h48:n≤281474976710656)
  {rows:List (List D)} (hr:xK e n.toNat=some rows) :
  ∃v' w' μ',(Instr.makeSlice t (.int kl n) (.int kc n)).run P w = .ok v' w'∧aR w' μ' (h++[.arr false e.size 0 rows])∧aY w' μ' (h++[.arr false e.size 0 rows]) (.own h.length 0 n.toNat) v'∧v'.oneCell'=true∧
   Good w μ h w' μ' (h++[.arr false e.size 0 rows]):=by
 obtain⟨I,d,h1,h2,h3,h4,h5,h6,h7,h8,h9,h10,_⟩:=fE ht;obtain⟨et,rfl⟩:=h10 (by rw[he];rfl);have hE:iU P et=some e:=by rw[←h9 et rfl];exact he
 obtain⟨E,dE,g1,g2,g3,g4,g5,g6⟩:=pH hE;obtain⟨z,ds,z1,rfl,z3,z4,z5,z6⟩:=jp6 hE g1 hr;have hrun:=run_make (P:=P) w t et E z h2 g1 z1 kl kc n n h0 (Int.le_refl _) (by rw[←g4];exact hb) (by omega);have hget:∀k,k<n.toNat*E.size→∃c,(madeCells z.cells (n.toNat*E.size))[k]?=some c∧z.cells[k % e.size]?=some c:=by
  intro k hk;have hs0:0<E.size:=by rcases Nat.eq_zero_or_pos E.size with c|c;rw[c]at hk;simp at hk;exact c
  have hlt:k % z.cells.size<z.cells.size:=Nat.mod_lt _ (by omega);refine⟨z.cells[k % z.cells.size],?_,?_⟩
  ·simp only[madeCells,Array.getElem?_map,Array.getElem?_range];simp only[hk,if_true,Option.map_some,Option.some.injEq];exact getElem!_pos z.cells _ hlt
  ·rw[←z4];exact ks6 hlt
 have hsz:(madeCells z.cells (n.toNat*E.size)).size=n.toNat*E.size:=by simp[madeCells]
 refine⟨_,_,_,hrun,H.push (o:=.arr false e.size 0 (kw8 n.toNat ds)) ⟨by simp[hsz,g3],?_,?_,?_⟩,?_,rfl,Good.push _ _ _ _ _⟩
 ·intro v hv;obtain⟨k,hk,rfl⟩:=kz6 hv;rw[hsz]at hk;obtain⟨c,c1,c2⟩:=hget k hk;rw[ks6 (by rw[hsz];exact hk)]at c1;have c1':=Option.some.inj c1;rw[c1'];exact z5 _ (kA0 c2)
 ·intro k el hk;rw[kB1]at hk;split at hk
  ·cases hk;exact z3
  ·cases hk
 ·intro k j el x hk hj;rw[kB1]at hk;split at hk
  ·rename_i hkl;cases hk;have hjl:j<e.size:=by rw[←z3];exact(kp9.1 hj).1
   have:k*e.size+e.size≤n.toNat*e.size:=by rw[←kD3];exact kv6 _ hkl
   obtain⟨c,c1,c2⟩:=hget (k*e.size+j) (by rw[←g3];omega);obtain⟨u,u1,u2⟩:=z6 w (Mut μ h) j x hj;have hmod:(k*e.size+j) % e.size=j:=by rw[Nat.mul_comm,Nat.mul_add_mod,Nat.mod_eq_of_lt hjl]
   rw[hmod,u1]at c2;have c2':=Option.some.inj c2;subst c2';exact⟨u,c1,u2⟩
  ·cases hk
 ·exact .own (ty:=none) (fz:=false) (sz:=e.size) (xs:=kw8 n.toNat ds) (by simp) (by simp) (ko3 _ _ _) (ks0 _) (heap_alloc_new w _) (by rw[hsz,g3];exact ks0 _)
theorem jq6 {t ty:TypeId} {i:TI} {e:EI} (ht:ti P t=some i) (he:i.el=some e) (H:aR w μ h) {id ver len sz:Nat} {xs ys:List (List D)} {lx:L} {dv xv:Value}
  (hd:aY w μ h (.own id ver len) dv) (hx:aY w μ h lx xv) (hid:h[id]?=some (.arr false sz ver xs)) (hy:oR h lx=some ys) (hsz:sz=e.size) (hal:mC e.size ys=true) :
  ∃w',(Builtin.copy_ #[t,t] ty #[dv,xv]).run P w = .ok (.int .i64 ((min ys.length len:Nat):Int)) w'∧aR w' μ (h.set id (.arr false sz ver (ys.take (min ys.length len)++xs.drop (min ys.length len))))∧
   Good w μ h w' μ (h.set id (.arr false sz ver (ys.take (min ys.length len)++xs.drop (min ys.length len)))):=by
 subst hsz;obtain⟨I,d,h1,h2,h3,h4,h5,h6,h7,h8,h9,h10,_⟩:=fE ht;obtain⟨et,rfl⟩:=h10 (by rw[he];rfl);have hE:iU P et=some e:=by rw[←h9 et rfl];exact he
 obtain⟨E,dE,g1,g2,g3,g4,g5,g6⟩:=pH hE;obtain⟨A,c,news,rfl,hnews,hnil,hcells⟩:=zT5 H hx hy hal;have hs:(sizeOf et).run P w = .ok e.size w:=oP hE;generalize hm:min ys.length len=m;have hmle:m≤ys.length:=by omega
 have hmlen:m≤len:=by omega
 have hmin:Nat.min ys.length len=m:=hm;have hnl:(news.take (m*e.size)).length=m*e.size:=by
  have:=kv6 e.size hmle;rw[List.length_take,hnews.len];omega
 have hfc:(Builtin.firstCells e.size m (.slice A ys.length c)).run P w = .ok (news.take (m*e.size)).toArray w:=by
  cases A with
  |none=>
   have:=hnil rfl;subst this;have:news=[]:=List.eq_nil_of_length_eq_zero (by simpa using hnews.len);subst this;simp[Builtin.firstCells]
  |some ad=>
   refine run_firstCells_some (P:=P) w e.size m ad ys.length c _ hnl (fun j v hv=>?_);have hj:j<m*e.size:=by rw[←hnl];exact(kp9.1 hv).1
   rw[ks5 hj]at hv;exact hcells ad rfl j v hv
 cases hd with
 |ownNil hid' hμ=>
  have hm0:m=0:=by omega
  subst hm0;have hww:h.set id (.arr false e.size ver (ys.take 0++xs.drop 0))=h:=by
   simp only[kw1,List.nil_append,List.drop_zero];exact List.ext_getElem? (fun k=>by
    rw[List.getElem?_set];split
    ·rename_i e0;subst e0;rw[if_pos (kp9.1 hid).1,hid]
    ·rfl)
  rw[hww];refine⟨w,?_,H,kn9 _ _ _⟩;have h00:Nat.min ys.length 0=0:=by simp
  simp only[Nat.zero_mul,kw1]at hfc;simp[Builtin.copy_,run_underlying h2,Builtin.lenOf,hs,Result.andThen,goInt,hfc]
 |@own _ _ _ _ _ _ _ _ b0 cap0 cs0 T0 hid' hl hμ hcap hb hcs=>
  rw[hid]at hid';cases hid';rcases H.arr _ _ _ _ _ hid with⟨hn',_⟩|⟨b,cs,T,q1,q2,q3,q4,q5,q6⟩
  ·rw[hμ]at hn';cases hn'
  rw[hμ]at q1;cases q1;rw[hb]at q2;cases q2;have hmx:m*e.size≤xs.length*e.size:=kv6 _ (by omega);obtain⟨w',cs',hst,hrow,hsz',hall⟩:=xF (P:=P) b0 0 T0 (news.take (m*e.size)) 0 cs0 w hb (by rw[hnl];omega) (fun v hv=>hnews.one v (ky1 hv));have hfit:lJ (.arr false e.size ver xs) (.arr false e.size ver (ys.take m++xs.drop m)):=⟨rfl,rfl,rfl,rfl,by simp;omega⟩;have g:Good w μ h w' μ (h.set id (.arr false e.size ver (ys.take m++xs.drop m))):=Good.row hid rfl hfit hμ hb hrow hsz';simp only[Nat.add_zero,Nat.zero_add,hnl,Nat.zero_le,true_and,Nat.sub_zero]at hall;have hty:(ys.take m).length=m:=by simp;omega
  refine⟨w',?_,H.row hid rfl hfit hμ hb hrow hsz' ⟨?_,?_,?_,?_⟩,g⟩
  ·simp only[Builtin.copy_,List.getElem?_toArray,List.getElem?_cons_zero,List.getElem?_cons_succ,Sem.run_bind,Sem.run_pure,run_underlying h2,Builtin.lenOf,Result.andThen,hs,hmin,hfc,goInt];rw[hst]
  ·rw[hsz',List.length_append,hty,List.length_drop];have:m+(xs.length-m)=xs.length:=by omega
   rw[this];exact q3
  ·intro u hu;obtain⟨q,hq,rfl⟩:=kz6 hu;have:=hall q;rw[ks6 hq]at this;split at this
   ·exact hnews.one _ (ky1 (kq0 this.symm))
   ·exact q4 _ (kA0 this.symm)
  ·intro k el hk;rw[kB3]at hk;split at hk
   ·rename_i hkl;rw[hty]at hkl;rw[ks5 hkl]at hk;exact hnews.wide k el hk
   ·rw[kv4]at hk;exact q5 _ el hk
  ·intro k j el x hk hj;rw[kB3]at hk;split at hk
   ·rename_i hkl;rw[hty]at hkl;rw[ks5 hkl]at hk;obtain⟨v,a1,a2⟩:=hnews.cell k j el x hk hj;have hjl:j<e.size:=by rw[←hnews.wide k el hk];exact(kp9.1 hj).1
    have:k*e.size+e.size≤m*e.size:=by rw[←kD3];exact kv6 _ hkl
    refine⟨v,?_,a2.good g⟩;rw[hall,if_pos (by omega),ks5 (by omega)];exact a1
   ·rename_i hkl;rw[hty]at hkl hk;rw[kv4]at hk;have hk':xs[k]?=some el:=by rw[←hk];congr 1;omega
    obtain⟨v,a1,a2⟩:=q6 k j el x hk' hj;refine⟨v,?_,a2.good g⟩;have:m*e.size≤k*e.size:=kv6 _ (by omega);rw[hall,if_neg (by omega)];exact a1
 |ownOld hid' hv=>rw[hid]at hid';cases hid';omega
 |ownDead hid'=>rw[hid]at hid';cases hid'
theorem jq7 {o:Oper} {v:V} {h':aB} (H:aR w μ h) (s:dP w μ h T a) (hv:dW P T h o=some (v,h')):dT P w μ h (execOp a.eval o) v h':=by
 unfold dW at hv;split at hv
 ·rename_i t n ps ho;split at hv
  ·rename_i i vs hi hvs;split at hv
   ·rename_i e he;split at hv
    ·rename_i hc;obtain⟨c1,c2,c3,c4⟩:=hc;split at hv
     ·rename_i rows hrows;cases hv;obtain⟨e1,e2⟩:=zc3 s hvs;obtain⟨v',w',μ',r1,r2,r3,r4,r5⟩:=jp4 (P:=P) (w:=w) (μ:=μ) (h:=h) hi he H (xs:=ps.toList.map fun q=>(q.1,a.eval q.2)) (by simpa using e1) c1 (fun j p x hj hx=>by
       rw[ks1]at hx;cases hq:ps.toList[j]? with
       |none=>simp[hq]at hx
       |some q=>
        simp[hq]at hx;subst hx;exact e2 j p.1 p.2 q hj hq) c2 c3 (fun j p hj=>ku0.1 c4 p (kq0 hj)) (jp1 hrows)
      refine⟨_,w',μ',v',?_,.inl rfl,r2,.one r4 r3,r5⟩;have:(ps.map fun q=>(q.1,a.eval q.2))=(ps.toList.map fun q=>(q.1,a.eval q.2)).toArray:=by rw[←kJ0]
      simp[execOp,ho,this,r1,Result.andThen]
     ·split at hv
      ·rename_i he1;split at hv
       ·rename_i ls hls;cases hv;obtain⟨e1,e2⟩:=zc3 s hvs;obtain⟨v',w',μ',r1,r2,r3,r4,r5⟩:=jp5 (P:=P) (w:=w) (μ:=μ) (h:=h) hi he H (xs:=ps.toList.map fun q=>(q.1,a.eval q.2)) (by simpa using e1) c1 (fun j p x hj hx=>by
         rw[ks1]at hx;cases hq:ps.toList[j]? with
         |none=>simp[hq]at hx
         |some q=>
          simp[hq]at hx;subst hx;exact e2 j p.1 p.2 q hj hq) c2 c3 (fun j p hj=>ku0.1 c4 p (kq0 hj)) he1 hls
        refine⟨_,w',μ',v',?_,.inl rfl,r2,.one r4 r3,r5⟩;have:(ps.map fun q=>(q.1,a.eval q.2))=(ps.toList.map fun q=>(q.1,a.eval q.2)).toArray:=by rw[←kJ0]
        simp[execOp,ho,this,r1,Result.andThen]
       ·cases hv
      ·cases hv
    ·cases hv
   ·cases hv
  ·cases hv
 ·rename_i t l c ho;split at hv
  ·rename_i i k n k' m hi hl hc;split at hv
   ·rename_i e he;split at hv
    ·rename_i hcnd;obtain⟨c1,rfl,c2,c3⟩:=hcnd;split at hv
     ·rename_i rows hrows;cases hv;obtain⟨v',w',μ',r1,r2,r3,r4,r5⟩:=jq5 (P:=P) (kl:=k) (kc:=k') hi he H c1 c2 c3 hrows;refine⟨_,w',μ',v',?_,.inl rfl,r2,.one r4 r3,r5⟩;simp[execOp,ho,(bR s hl).int,(bR s hc).int,r1,Result.andThen]
     ·cases hv
    ·cases hv
   ·cases hv
  ·cases hv
 ·rename_i args argTypes ho;split at hv
  ·rename_i p x t t' hargs hts;split at hv
   ·rename_i e;subst e;split at hv
    ·rename_i i ls lx hi hs hx;split at hv
     ·rename_i e he;split at hv
      ·rename_i l h2 ha;cases hv;have e1:args=#[p,x]:=by apply kv9.1;simpa using hargs
       have e2:argTypes=#[t,t]:=by apply kv9.1;simpa using hts
       subst e1;subst e2;have hrun:∃v' w' μ',(Builtin.append_ #[t,t] o.type #[a.eval p,a.eval x]).run P w = .ok v' w'∧aR w' μ' h'∧aY w' μ' h' l v'∧v'.oneCell'=true∧Good w μ h w' μ' h':=by
        unfold xJ at ha;split at ha
        ·rename_i ys hy;exact jp2 (P:=P) (ty:=o.type) hi he H (bR s hs).l (bR s hx).l hy ha
        ·split at ha
         ·rename_i ys hy;exact jp8 (P:=P) (ty:=o.type) hi he H (bR s hs).l (bR s hx).l hy ha
         ·cases ha
       obtain⟨v',w',μ',r1,r2,r3,r4,r5⟩:=hrun;refine⟨_,w',μ',v',?_,.inl rfl,r2,.one r4 r3,r5⟩;simp[execOp,ho,resolve,invoke,builtin,r1,Result.andThen]
      ·cases hv
     ·cases hv
    ·cases hv
   ·split at hv
    ·rename_i ls b hs hx;split at hv
     ·rename_i l h2 ha;cases hv;have e1:args=#[p,x]:=by apply kv9.1;simpa using hargs
      have e2:argTypes=#[t,t']:=by apply kv9.1;simpa using hts
      subst e1;subst e2;have hb:=(bR s hx).str;obtain⟨v',w',μ',r1,r2,r3,r4,r5⟩:=jq1 (P:=P) (ty:=o.type) H (bR s hs).l ha;refine⟨_,w',μ',v',?_,.inl rfl,r2,.one r4 r3,r5⟩;simp[execOp,ho,resolve,invoke,builtin,hb,r1,Result.andThen]
     ·cases hv
    ·cases hv
  ·cases hv
 ·rename_i args ats ho;split at hv
  ·rename_i x hargs;split at hv
   ·rename_i l hx;split at hv
    ·rename_i l' hd;cases hv;have e1:args=#[x]:=by apply kv9.1;simpa using hargs
     subst e1;obtain⟨v',r1,r2,r3⟩:=jq2 (P:=P) (ts:=ats) (ty:=o.type) H (bR s hx).l hd;exact dT.same H (.one r3 r2) (by simp[execOp,ho,resolve,invoke,builtin,r1,Result.andThen])
    ·cases hv
   ·cases hv
  ·cases hv
 ·rename_i args argTypes ho;split at hv
  ·rename_i p n pt it hargs hts;split at hv
   ·rename_i l k hp hn;have e1:args=#[p,n]:=by apply kv9.1;simpa using hargs
    have e2:argTypes=#[pt,it]:=by apply kv9.1;simpa using hts
    subst e1;subst e2;have hk:=(bR s hn).int;obtain⟨v',w',r1,r2,r3,r4⟩:=jq3 (P:=P) (it:=it) (ty:=o.type) H (bR s hp).l hv;refine⟨_,w',μ,v',?_,.inl rfl,r2,r3,r4⟩;simp[execOp,ho,resolve,invoke,builtin,hk,r1,Result.andThen]
   ·cases hv
  ·cases hv
 ·rename_i f args ats ho;split at hv
  ·rename_i hf;split at hv
   ·rename_i x hargs;split at hv
    ·rename_i u hx;cases hv;have e1:args=#[x]:=by apply kv9.1;simpa using hargs
     subst e1;refine dT.same H (bR s hx) ?_;simp[execOp,ho,resolve,Act.eval,Deferred.ofValue,invoke,jq4 hf,Result.andThen]
    ·cases hv
   ·cases hv
  ·cases hv
 ·rename_i args argTypes ho;split at hv
  ·rename_i p x t t' hargs hts;split at hv
   ·rename_i e;subst e;split at hv
    ·rename_i i id ver len lx hi hs hx;split at hv
     ·rename_i e sz ver' xs ys he hid hy;split at hv
      ·rename_i hc;obtain⟨rfl,c2,c3,_⟩:=hc;cases hv;have e1:args=#[p,x]:=by apply kv9.1;simpa using hargs
       have e2:argTypes=#[t,t]:=by apply kv9.1;simpa using hts
       subst e1;subst e2;obtain⟨w',r1,r2,r3⟩:=jq6 (P:=P) (ty:=o.type) hi he H (bR s hs).l (bR s hx).l hid hy c2 c3;refine⟨_,w',μ,.int .i64 ((min ys.length len:Nat):Int),?_,.inl rfl,r2,.one rfl (.d (.int _ _)),r3⟩;simp[execOp,ho,resolve,invoke,builtin,r1,Result.andThen]
      ·cases hv
     ·cases hv
    ·cases hv
   ·cases hv
  ·cases hv
 ·cases hv
end Go.Vt
