import Derived.Test.YtdabfkmhkoppcaaGreatDoorVtStep
import Derived.Test.YtdabfkmhkoppcaaGreatDoorVtComp
import Derived.Shelf.Strings.Repeat
import Derived.Shelf.Strings.OnBuilder
import Derived.Shelf.Strconv.Itoa3
import Derived.Test.YtdabfkmhkoppcaaGreatDoorVtKn
import Derived.Test.YtdabfkmhkoppcaaGreatDoorVtSimp
import Derived.Test.YtdabfkmhkoppcaaGreatDoorVtD13
import Derived.Test.YtdabfkmhkoppcaaGreatDoorVtTA
set_option linter.all false
set_option maxHeartbeats 4000000
set_option maxRecDepth 100000
open Array renaming getElem?_eq_some_iff→kt0
open List renaming getElem?_eq_some_iff→kp9,getElem?_set_ne→ku5,lookup→kt8,map_cons→kq1,map_nil→kq5
open Nat renaming le_refl→ks0
open Go.Proofs.Tryz renaming prog→kp8
open Go.Vt.aF renaming encs→ks8
open Go.Vt renaming dL→J0,mkV→J1
open Nat renaming reduceBEq→J2,reduceEqDiff→J3,reduceLT→J4,reduceLeDiff→J5,reduceAdd→J6,reduceMul→J7,reduceSub→J8
namespace Go.Vt
set_option linter.unusedSectionVars false
set_option linter.unusedVariables false
variable [cJ]
theorem VC.frame {P:Program} {f:FuncId} {avs:List V} {h1 h2:aB} {K:V→aB→Prop} (step:∀(w:World) (μ:Pl),aR w μ h1→∃μ',aR w μ' h2∧Good w μ h1 w μ' h2) (hcb:jM P f=true) (hv:zo3 P f avs h2 K):VC P f avs h1 K:=by
 refine⟨hcb,fun w μ args H hl ha=>?_⟩;obtain⟨μ',H',g⟩:=step w μ H;refine(zT3 hv H' hl (fun j v x a b=>(ha j v x a b).good g)).mono ?_;rintro e w' ⟨r,x,h',μ2,e1,e2,e3,e4,e5⟩;exact⟨r,x,h',μ2,e1,e2,e3,e4,g.trans e5⟩
open Go.Proofs Go.Shelf Go.Sort Go.RowKit
set_option linter.unusedSectionVars false
set_option linter.unusedVariables false
variable [cJ]
section
variable {P:Program} {w w':World} {μ:Pl} {h:aB}
theorem kp6 (μ:Pl) (h:aB) (g:Below w.heap.size w w'):Good w μ h w' μ h where
 os:=g.os
 tape:=g.tape
 output:=g.output
 size:=g.size
 out:=rfl
 block b hb _:=g.block b hb
 shape b cs T fr hb:=⟨cs,_,(g.block b (kt0.1 hb).1).trans hb,rfl⟩
 fresh b hm:=.inl hm
 len:=ks0 _
 boxes id ty cells hb:=.inr ⟨cells,ty,hb,rfl,rfl⟩
 arrs id ty fz sz ver xs hb:=.inr ⟨fz,sz,ver,xs,ty,hb,.inl ⟨rfl,rfl,rfl,rfl⟩⟩
 deads id hb:=hb
theorem aR.below (H:aR w μ h) (g:Below w.heap.size w w'):aR w' μ h:=by
 have G:=kp6 μ h g;refine⟨fun id _ cells hid=>?_,fun id _ fz sz ver xs hid=>?_,H.apart,H.off,fun b hb=>Nat.lt_of_lt_of_le (H.old b hb) g.size,fun i o b hi hb=>(H.ty i o b hi hb).good G,H.tabs G⟩
 ·obtain⟨b,cs,T,h1,h2,h3,h4,h5⟩:=H.box id cells hid;exact⟨b,cs,T,h1,(g.block b (kt0.1 h2).1).trans h2,h3,h4,fun j l v hj hv=>(h5 j l v hj hv).good G⟩
 ·rcases H.arr id fz sz ver xs hid with hn|⟨b,cs,T,h1,h2,h3,h4,h5,h6⟩
  ·exact .inl hn
  ·exact .inr ⟨b,cs,T,h1,(g.block b (kt0.1 h2).1).trans h2,h3,h4,h5,fun i j e x hi hj=>let ⟨v,a,c⟩:=h6 i j e x hi hj;⟨v,a,c.good G⟩⟩
theorem kh2 {id k sz:Nat} {T:TypeId} {ty:Option TypeId} {cs:List L} (H:aR w μ h) (hid:h[id]?=some (.bx ty cs)) (hk:cs[k]?=some .nils) :
  ∃μ',aR w μ' ((h++[aI.ar (some T) false sz 0 []]).set id (.bx ty (cs.set k (.own h.length 0 0))))∧Good w μ h w μ' ((h++[aI.ar (some T) false sz 0 []]).set id (.bx ty (cs.set k (.own h.length 0 0)))):=by
 have H1:=H.pushN (o:=.ar (some T) false sz 0 []) (.inr ⟨some T,sz,rfl⟩);have g1:=ko8 w μ h (.ar (some T) false sz 0 []);have hlt:=(kp9.1 hid).1;have hid1:(h++[aI.ar (some T) false sz 0 []])[id]?=some (.bx ty cs):=nU _ hid;obtain⟨b,vs,T',b1,b2,b3,b4,b5⟩:=H1.box id cs hid1;have g2:Good w (μ.put h.length none) (h++[aI.ar (some T) false sz 0 []]) w (μ.put h.length none) ((h++[aI.ar (some T) false sz 0 []]).set id (.bx ty (cs.set k (.own h.length 0 0)))):=
  Good.row (o':=.bx ty (cs.set k (.own h.length 0 0))) hid1 rfl (by simp[lJ]) b1 b2 ⟨rfl,rfl,rfl,rfl,fun _ _=>rfl,b2⟩ rfl
 refine⟨_,H1.row (o':=.bx ty (cs.set k (.own h.length 0 0))) hid1 rfl (by simp[lJ]) b1 b2 ⟨rfl,rfl,rfl,rfl,fun _ _=>rfl,b2⟩ rfl ⟨by simp[b3],b4,?_⟩,g1.trans g2⟩;intro j l v hj hv;have hklt:=(kp9.1 hk).1;by_cases e:j=k
 ·subst e;simp[hklt]at hj;subst hj;have:=b5 j .nils v hk hv;cases this;refine .ownNil (ty:=some T) (fz:=false) (sz:=sz) (xs:=[]) ?_ (ko3 _ _ _);rw[ku5 (by omega)];simp
 ·rw[ku5 (Ne.symm e)]at hj;exact(b5 j l v hj hv).good g2
end
theorem kh3 (w:World) (q:Nat) (os:Array Obj):Below w.heap.size w (grow (w.drewN q) os):=
 ⟨rfl,rfl,rfl,by simp[grow,World.drewN],fun k hk=>by
  show(w.heap++os)[k]?=_;rw[Array.getElem?_append_left hk]⟩
section
variable {P:Program} {ρ:Ren}
theorem kh4 (L:LaysM.n171 P ρ) (hcal:jM P (ρ.f 171)=true) {g:Nat} (hg:P.globalNamed "internal/strconv.uint64pow10" = some g) (hY:cJ.Y g=some (Lib.pow10Tab.map fun z=>Value.int .u64 z).toArray) (n:Int) (h0:-9223372036854775808≤n) (h1:n≤9223372036854775807) :
  VC P (ρ.f 171) [.one (.d (.int .i64 n))] [] fun r h'=>r = .one (.d (.str ⟨(Lib.itoa n).toArray⟩))∧h'=[]:=by
 refine⟨hcal,fun w μ args H hl ha=>?_⟩
 match args,hl with
 |⟨[v]⟩,_=>
  have hv:=ha 0 _ v rfl rfl;cases hv with
  |one ho hl=>
   cases hl with
   |d hd=>
    cases hd;have htab:Lib.TabIs P w "internal/strconv.uint64pow10" .u64 Lib.pow10Tab:=by
     unfold Lib.TabIs World.var?;obtain⟨⟨T,fr,hb⟩,_⟩:=H.tab g _ hY;rw[hg];simp[hb]
    refine(callsIn_wide.2 (Any.strconv_Itoa L n h0 h1 w htab)).mono ?_;rintro e w' ⟨rfl,k,os,rfl⟩;have gb:=kh3 w k os;exact⟨_,_,_,μ,rfl,⟨rfl,rfl⟩,H.below gb,.one rfl (.d (.str _)),kp6 _ _ gb⟩
theorem kh5 (L:Lays.n105 P ρ) (X:Builder.Extra P ρ) (hcal:jM P (ρ.f 105)=true) (s:ByteArray) (c:Nat) (hc:c≤9223372036854775807) (hb:s.size*c≤140737488355328) :
  VC P (ρ.f 105) [.one (.d (.str s)),.one (.d (.int .i64 c))] [] fun r h'=>r = .one (.d (.str ⟨(Lib.repeatL s.data.toList c).toArray⟩))∧h'=[]:=by
 refine⟨hcal,fun w μ args H hl ha=>?_⟩
 match args,hl with
 |⟨[v,u]⟩,_=>
  have hv:=ha 0 _ v rfl rfl;have hu:=ha 1 _ u rfl rfl;cases hv with
  |one ho hl=>
   cases hl with
   |d hd=>
    cases hd;cases hu with
    |one ho2 hl2=>
     cases hl2 with
     |d hd2=>
      cases hd2;refine(callsIn_wide.2 (Any.strings_Repeat L X s c w hc hb)).mono ?_;rintro e w' ⟨rfl,g⟩;exact⟨_,_,_,μ,rfl,⟨rfl,rfl⟩,H.below g,.one rfl (.d (.str _)),kp6 _ _ g⟩
def kP (l:List ByteArray):List (List D):=l.map fun s=>[.str s]
theorem kh6 (L:Lays.n156 P ρ) (X:Builder.Extra P ρ) (hcal:jM P (ρ.f 156)=true) (l:List ByteArray) (sep:ByteArray) (hN:l.length≤140737488355328) (hlen:(Lib.join (l.map (·.data.toList)) sep.data.toList).length≤140737488355328) :
  VC P (ρ.f 156) [.one (.d (.sl (kP l))),.one (.d (.str sep))] [] fun r h'=>r = .one (.d (.str ⟨(Lib.join (l.map (·.data.toList)) sep.data.toList).toArray⟩))∧h'=[]:=by
 refine⟨hcal,fun w μ args H hl ha=>?_⟩
 match args,hl with
 |⟨[v,u]⟩,_=>
  have hv:=ha 0 _ v rfl rfl;have hu:=ha 1 _ u rfl rfl;cases hu with
  |one ho2 hl2=>
   cases hl2 with
   |d hd2=>
    cases hd2;generalize hr:kP l=rs at hv;cases hv with
    |one ho hl=>
     cases hl with
     |d hd=>
      cases hd with
      |sl0 a cap=>
       have:l=[]:=by cases l with
        |nil=>rfl
        |cons x y=>cases hr
       subst this;refine(callsIn_wide.2 (Any.strings_Join_none L X a cap sep w)).mono ?_;rintro e w' ⟨rfl,rfl⟩;exact⟨_,_,_,μ,rfl,⟨rfl,rfl⟩,H,.one rfl (.d (.str _)),kn9 _ _ _⟩
      |sl sz xs b off cap vs hne hb hlt hcap hlen' hcell hval=>
       subst hr;have hle:(kP l).length=l.length:=by simp[kP]
       rw[hle]at hcap ⊢;have hsz:sz=1:=by
        cases l with
        |nil=>simp[kP]at hne
        |cons x y=>exact(hlen' 0 [.str x] rfl).symm
       subst hsz;have hcells:∀(j:Nat) x,l[j]?=some x→w.cell? ⟨b,off+j,none⟩=some (.string x):=by
        intro j x hj;have hg:(kP l)[j]?=some [.str x]:=by simp[kP,hj]
        have h1:=hcell j 0 _ _ hg rfl;have h2:=hval j 0 _ _ hg rfl;cases h2':vs j 0<;>rw[h2']at h2 h1<;>cases h2
        simpa using h1
       refine(callsIn_wide.2 (Any.strings_Join L X b off cap l sep w hcells hlt hN hcap hlen)).mono ?_;rintro e w' ⟨rfl,g⟩;exact⟨_,_,_,μ,rfl,⟨rfl,rfl⟩,H.below g,.one rfl (.d (.str _)),kp6 _ _ g⟩
end
end Go.Vt
namespace Go.Vt.Tryz
open Go.Proofs Go.Shelf
def zm2:Ren:=⟨fun n=>if n=338 then 319 else if n=337 then 318 else if n=320 then 317 else if n=319 then 316 else if n=318 then 315 else if n=317 then 314 else if n=129 then 277 else if n=286 then 313 else if n=285 then 312 else if n=284 then 311 else if n=283 then 310 else if n=246 then 308 else if n=243 then 292 else if n=171 then 263 else if n=156 then 161 else if n=277 then 293 else if n=276 then 288 else if n=241 then 266 else if n=240 then 259 else if n=206 then 291 else if n=264 then 290 else if n=263 then 289 else if n=169 then 109 else if n=170 then 262 else if n=166 then 224 else if n=165 then 228 else if n=99 then 261 else if n=212 then 260 else if n=105 then 225 else n,fun n=>if n=233 then 428 else if n=232 then 427 else if n=213 then 426 else if n=212 then 425 else if n=173 then 422 else if n=171 then 420 else if n=31 then 35 else if n=80 then 224 else if n=164 then 398 else if n=127 then 298 else if n=75 then 349 else if n=37 then 218 else if n=70 then 217 else if n=148 then 402 else if n=53 then 391 else if n=146 then 400 else if n=51 then 389 else if n=76 then 350 else if n=72 then 220 else if n=109 then 374 else if n=46 then 357 else n,fun n=>if n=19 then 3 else if n=18 then 2 else if n=17 then 1 else n⟩
theorem kh7:Lays.n105 kp8 zm2 where
 mixed:=mixed
 f99:=by kernel_rfl
 f105:=by kernel_rfl
 f165:=by kernel_rfl
 f166:=by kernel_rfl
 f169:=by kernel_rfl
 f170:=by kernel_rfl
 f206:=by kernel_rfl
 f212:=by kernel_rfl
 f240:=by kernel_rfl
 f241:=by kernel_rfl
 f263:=by kernel_rfl
 f264:=by kernel_rfl
 f276:=by kernel_rfl
 f277:=by kernel_rfl
 t0:=Tryz.underlying0
 a0:=Tryz.isAgg0
 z0:=Tryz.sizeOf0
 v0:=Tryz.zeroValue0
 t3:=Tryz.underlying3
 a3:=Tryz.isAgg3
 z3:=Tryz.sizeOf3
 v3:=Tryz.zeroValue3
 t4:=Tryz.underlying4
 a4:=Tryz.isAgg4
 z4:=Tryz.sizeOf4
 v4:=Tryz.zeroValue4
 t5:=Tryz.underlying5
 a5:=Tryz.isAgg5
 z5:=Tryz.sizeOf5
 v5:=Tryz.zeroValue5
 t9:=Tryz.underlying9
 a9:=Tryz.isAgg9
 z9:=Tryz.sizeOf9
 v9:=Tryz.zeroValue9
 t20:=Tryz.underlying20
 a20:=Tryz.isAgg20
 z20:=Tryz.sizeOf20
 v20:=Tryz.zeroValue20
 t37:=Tryz.underlying218
 a37:=Tryz.isAgg218
 z37:=Tryz.sizeOf218
 v37:=Tryz.zeroValue218
 t46:=Tryz.underlying357
 a46:=Tryz.isAgg357
 z46:=Tryz.sizeOf357
 v46:=Tryz.zeroValue357
 t51:=Tryz.underlying389
 a51:=Tryz.isAgg389
 z51:=Tryz.sizeOf389
 v51:=Tryz.zeroValue389
 t53:=Tryz.underlying391
 a53:=Tryz.isAgg391
 z53:=Tryz.sizeOf391
 v53:=Tryz.zeroValue391
 t70:=Tryz.underlying217
 a70:=Tryz.isAgg217
 z70:=Tryz.sizeOf217
 v70:=Tryz.zeroValue217
 t72:=Tryz.underlying220
 a72:=Tryz.isAgg220
 z72:=Tryz.sizeOf220
 v72:=Tryz.zeroValue220
 t75:=Tryz.underlying349
 a75:=Tryz.isAgg349
 z75:=Tryz.sizeOf349
 v75:=Tryz.zeroValue349
 t76:=Tryz.underlying350
 a76:=Tryz.isAgg350
 z76:=Tryz.sizeOf350
 v76:=Tryz.zeroValue350
 t109:=Tryz.underlying374
 a109:=Tryz.isAgg374
 z109:=Tryz.sizeOf374
 v109:=Tryz.zeroValue374
 t127:=Tryz.underlying298
 a127:=Tryz.isAgg298
 z127:=Tryz.sizeOf298
 v127:=Tryz.zeroValue298
 t146:=Tryz.underlying400
 a146:=Tryz.isAgg400
 z146:=Tryz.sizeOf400
 v146:=Tryz.zeroValue400
 t148:=Tryz.underlying402
 a148:=Tryz.isAgg402
 z148:=Tryz.sizeOf402
 v148:=Tryz.zeroValue402
 t164:=Tryz.underlying398
 a164:=Tryz.isAgg398
 z164:=Tryz.sizeOf398
 v164:=Tryz.zeroValue398
theorem kh8:Lays.n156 kp8 zm2 where
 mixed:=mixed
 f156:=by kernel_rfl
 f165:=by kernel_rfl
 f166:=by kernel_rfl
 f169:=by kernel_rfl
 f240:=by kernel_rfl
 f241:=by kernel_rfl
 f276:=by kernel_rfl
 f277:=by kernel_rfl
 t0:=Tryz.underlying0
 a0:=Tryz.isAgg0
 z0:=Tryz.sizeOf0
 v0:=Tryz.zeroValue0
 t3:=Tryz.underlying3
 a3:=Tryz.isAgg3
 z3:=Tryz.sizeOf3
 v3:=Tryz.zeroValue3
 t4:=Tryz.underlying4
 a4:=Tryz.isAgg4
 z4:=Tryz.sizeOf4
 v4:=Tryz.zeroValue4
 t9:=Tryz.underlying9
 a9:=Tryz.isAgg9
 z9:=Tryz.sizeOf9
 v9:=Tryz.zeroValue9
 t20:=Tryz.underlying20
 a20:=Tryz.isAgg20
 z20:=Tryz.sizeOf20
 v20:=Tryz.zeroValue20
 t31:=Tryz.underlying35
 a31:=Tryz.isAgg35
 z31:=Tryz.sizeOf35
 v31:=Tryz.zeroValue35
 t37:=Tryz.underlying218
 a37:=Tryz.isAgg218
 z37:=Tryz.sizeOf218
 v37:=Tryz.zeroValue218
 t70:=Tryz.underlying217
 a70:=Tryz.isAgg217
 z70:=Tryz.sizeOf217
 v70:=Tryz.zeroValue217
 t72:=Tryz.underlying220
 a72:=Tryz.isAgg220
 z72:=Tryz.sizeOf220
 v72:=Tryz.zeroValue220
 t75:=Tryz.underlying349
 a75:=Tryz.isAgg349
 z75:=Tryz.sizeOf349
 v75:=Tryz.zeroValue349
 t76:=Tryz.underlying350
 a76:=Tryz.isAgg350
 z76:=Tryz.sizeOf350
 v76:=Tryz.zeroValue350
 t127:=Tryz.underlying298
 a127:=Tryz.isAgg298
 z127:=Tryz.sizeOf298
 v127:=Tryz.zeroValue298
 t164:=Tryz.underlying398
 a164:=Tryz.isAgg398
 z164:=Tryz.sizeOf398
 v164:=Tryz.zeroValue398
theorem kh9:LaysM.n171 kp8 zm2 where
 mixed:=mixed
 f129:=by kernel_rfl
 f171:=by kernel_rfl
 f243:=by kernel_rfl
 f246:=by kernel_rfl
 f283:=by kernel_rfl
 f284:=by kernel_rfl
 f285:=by kernel_rfl
 f286:=by kernel_rfl
 f317:=by kernel_rfl
 f318:=by kernel_rfl
 f319:=by kernel_rfl
 f320:=by kernel_rfl
 f337:=by kernel_rfl
 f338:=by kernel_rfl
 t0:=Tryz.underlying0
 a0:=Tryz.isAgg0
 z0:=Tryz.sizeOf0
 v0:=Tryz.zeroValue0
 t2:=Tryz.underlying2
 a2:=Tryz.isAgg2
 z2:=Tryz.sizeOf2
 v2:=Tryz.zeroValue2
 t3:=Tryz.underlying3
 a3:=Tryz.isAgg3
 z3:=Tryz.sizeOf3
 v3:=Tryz.zeroValue3
 t4:=Tryz.underlying4
 a4:=Tryz.isAgg4
 z4:=Tryz.sizeOf4
 v4:=Tryz.zeroValue4
 t5:=Tryz.underlying5
 a5:=Tryz.isAgg5
 z5:=Tryz.sizeOf5
 v5:=Tryz.zeroValue5
 t9:=Tryz.underlying9
 a9:=Tryz.isAgg9
 z9:=Tryz.sizeOf9
 v9:=Tryz.zeroValue9
 t20:=Tryz.underlying20
 a20:=Tryz.isAgg20
 z20:=Tryz.sizeOf20
 v20:=Tryz.zeroValue20
 t37:=Tryz.underlying218
 a37:=Tryz.isAgg218
 z37:=Tryz.sizeOf218
 v37:=Tryz.zeroValue218
 t46:=Tryz.underlying357
 a46:=Tryz.isAgg357
 z46:=Tryz.sizeOf357
 v46:=Tryz.zeroValue357
 t51:=Tryz.underlying389
 a51:=Tryz.isAgg389
 z51:=Tryz.sizeOf389
 v51:=Tryz.zeroValue389
 t53:=Tryz.underlying391
 a53:=Tryz.isAgg391
 z53:=Tryz.sizeOf391
 v53:=Tryz.zeroValue391
 t171:=Tryz.underlying420
 a171:=Tryz.isAgg420
 z171:=Tryz.sizeOf420
 v171:=Tryz.zeroValue420
 t173:=Tryz.underlying422
 a173:=Tryz.isAgg422
 z173:=Tryz.sizeOf422
 v173:=Tryz.zeroValue422
 t212:=Tryz.underlying425
 a212:=Tryz.isAgg425
 z212:=Tryz.sizeOf425
 v212:=Tryz.zeroValue425
 t213:=Tryz.underlying426
 a213:=Tryz.isAgg426
 z213:=Tryz.sizeOf426
 t232:=Tryz.underlying427
 a232:=Tryz.isAgg427
 z232:=Tryz.sizeOf427
 v232:=Tryz.zeroValue427
 t233:=Tryz.underlying428
 a233:=Tryz.isAgg428
 z233:=Tryz.sizeOf428
 v233:=Tryz.zeroValue428
 g17:=by kernel_rfl
 m17:=by kernel_rfl
 g18:=by kernel_rfl
 m18:=by kernel_rfl
 g19:=by kernel_rfl
 m19:=by kernel_rfl
 i0:=by kernel_rfl
 i2:=by kernel_rfl
 i3:=by kernel_rfl
 i4:=by kernel_rfl
 i5:=by kernel_rfl
 i9:=by kernel_rfl
 i20:=by kernel_rfl
 i37:=by kernel_rfl
 i46:=by kernel_rfl
 i51:=by kernel_rfl
 i53:=by kernel_rfl
 i171:=by kernel_rfl
 i173:=by kernel_rfl
 i212:=by kernel_rfl
 i232:=by kernel_rfl
 i233:=by kernel_rfl
theorem jj6:Builder.Extra kp8 zm2 where
 sizeBuilder:=by kernel_rfl
 liesBuilder:=by kernel_rfl
 t5:=Tryz.underlying5
 a5:=Tryz.isAgg5
 z5:=Tryz.sizeOf5
 v5:=Tryz.zeroValue5
 infoByte:=by kernel_rfl
 cellsByte:=by kernel_rfl
 sizeByte:=by kernel_rfl
 neB5:=by decide
theorem jj7 (n:Int) (h0:-9223372036854775808≤n) (h1:n≤9223372036854775807) :
  VC kp8 263 [.one (.d (.int .i64 n))] [] fun r h'=>r = .one (.d (.str ⟨(Lib.itoa n).toArray⟩))∧h'=[]:=kh4 kh9 (by kernel_rfl) zu7 jE4 n h0 h1
theorem ki0 (s:ByteArray) (c:Nat) (hc:c≤9223372036854775807) (hb:s.size*c≤140737488355328) :
  VC kp8 225 [.one (.d (.str s)),.one (.d (.int .i64 c))] [] fun r h'=>r = .one (.d (.str ⟨(Lib.repeatL s.data.toList c).toArray⟩))∧h'=[]:=kh5 kh7 jj6 (by kernel_rfl) s c hc hb
theorem ki1 (l:List ByteArray) (sep:ByteArray) (hN:l.length≤140737488355328) (hlen:(Lib.join (l.map (·.data.toList)) sep.data.toList).length≤140737488355328) :
  VC kp8 161 [.one (.d (.sl (kP l))),.one (.d (.str sep))] [] fun r h'=>r = .one (.d (.str ⟨(Lib.join (l.map (·.data.toList)) sep.data.toList).toArray⟩))∧h'=[]:=kh6 kh8 jj6 (by kernel_rfl) l sep hN hlen
end Go.Vt.Tryz
namespace Go.Vt
set_option linter.unusedSectionVars false
set_option linter.unusedVariables false
variable [cJ]
variable {P:Program} {T:Sl} {h:aB} {K:Kn (V×aB)}
theorem jj8 {s t:TypeId} {k id off:Nat} {i j:TI} (hs:ti P s=some i) (ht:ti P t=some j) (hj:(match j.kd with|.int _=>false|.str=>false|_=>true)=true) (hx:kt8 k T=some (.one (.ptr id off))) (hc:qY P h s t id off=true) :
  @cV _ P T h (.convert s t (.tmp k)) K=@obI _ (some (.one (.ptr id off),h)) K:=
 gI (by
  simp only[vop,hs,ht,opd,hx];cases e:j.kd<;>simp[e]at hj ⊢<;>exact hc) rfl (by simp[cH])
theorem jj9 {t u:TypeId} {a b:Nat} {ls l:L} {s:ByteArray} {h':aB} (hn:t≠u) (ha:kt8 a T=some (.one ls)) (hb:kt8 b T=some (.one (.d (.str s)))) (hv:uX P h t u ls s=some (l,h')) :
  @cV _ P T h (.call (Call.mk (.builtin .append) #[.tmp a,.tmp b] #[t,u])) K=@obI _ (some (.one l,h')) K:=
 yF rfl (by simp[dW,hn,opd,ha,hb,hv]) (by simp[cH])
theorem jk0 {ts:Array TypeId} {a:Nat} {l l':L} (ha:kt8 a T=some (.one l)) (hv:uY h l=some l'):@cV _ P T h (.call (Call.mk (.builtin .unsafeSliceData) #[.tmp a] ts)) K=@obI _ (some (.one l',h)) K:=
 yF rfl (by simp[dW,opd,ha,hv]) (by simp[cH])
theorem jk1 {pt nt:TypeId} {a b:Nat} {l:L} {n:Int} {v:V} {h':aB} (ha:kt8 a T=some (.one l)) (hb:kt8 b T=some (.one (.d (.int .i64 n)))) (hv:uZ P h pt l n=some (v,h')) :
  @cV _ P T h (.call (Call.mk (.builtin .unsafeString) #[.tmp a,.tmp b] #[pt,nt])) K=@obI _ (some (v,h')) K:=
 yF rfl (by simp[dW,opd,ha,hb,hv]) (by simp[cH])
theorem ki2 {s t:TypeId} {k id ver len:Nat} {i j:TI} {ty:Option TypeId} {fz:Bool} {xs:List (List D)} {bs:List UInt8} (hs:ti P s=some i) (ht:ti P t=some j) (hk:i.kd = .slice) (hj:j.kd = .str) (hb:xA P s=true)
  (hx:kt8 k T=some (.one (.own id ver len))) (hid:h[id]?=some (.ar ty fz 1 ver xs)) (hl:len≠0∧len≤xs.length) (hbs:mU (xs.take len)=some bs):@cV _ P T h (.convert s t (.tmp k)) K=@obI _ (some (.one (.d (.str ⟨bs.toArray⟩)),h)) K:=
 gI (by simp[vop,hs,ht,hk,hj,hb,hid,hl,hbs,opd,hx]) rfl (by simp[cH])
theorem ki3 {f:FuncId} {a:Nat} {ts:Array TypeId} {v:V} (hf:mX P f=true) (ha:kt8 a T=some v):@cV _ P T h (.call (Call.mk (.value (.func f)) #[.tmp a] ts)) K=@obI _ (some (v,h)) K:=by
 have hm:dW P T h (mkO (.call (Call.mk (.value (.func f)) #[.tmp a] ts)))=some (v,h):=by simp[dW,hf,opd,ha]
 have hv:vop P T h (mkO (.call (Call.mk (.value (.func f)) #[.tmp a] ts)))=none:=rfl;unfold cV lO eW;rw[hv,hm];rfl
end Go.Vt
namespace Go.Vt.Tryz
open Go.Proofs Go.Vt.Al
theorem ki4:xA kp8 218=true:=by kernel_rfl
theorem uM {n:Int} (h:inr n):IntKind.i64.wrap n=n:=by
 obtain⟨h1,h2⟩:=h;unfold IntKind.wrap;simp only[IntKind.signed,IntKind.bits,Bool.true_and,Nat.reduceSub,Int.reducePow];split<;>rename_i h<;>first|(have h2:=of_decide_eq_true h;omega)|(have h2:¬(n % 18446744073709551616≥9223372036854775808):=fun e=>h (decide_eq_true e);omega)
theorem ki5 (n:Int) (h:inr n):VC kp8 264 [.one (.d (.int .i64 n))] [] fun r h'=>r = .one (.d (.str (wY n)))∧h'=[]:=by
 obtain⟨g1,g2⟩:=h;refine aU mixed jR1 (by simp) ?_;show vwp kp8 0 zE1 _ [(0,.one (.d (.int .i64 n)))] [];conv in zE1=>cbv
 rw[aO];unfold wY;by_cases h0:n<0
 ·have h1:(n<0)=True:=by simp[h0]
  simp -implicitDefEqProofs only[oS.d,J0,J1,J2,J3,J4,J5,J6,J7,J8,↓reduceIte,reduceCtorEq,h1];apply aH [];rfl;rfl;exact⟨rfl,rfl⟩
 ·have h1:(n<0)=False:=by simp[h0]
  have hm:n.tmod 26=n % 26:=Int.tmod_eq_emod_of_nonneg (by omega);have hq:n.tdiv 26=n / 26:=Int.tdiv_eq_ediv_of_nonneg (by omega);have e26:((26:Int)=0)=False:=by simp
  have hw1:IntKind.i64.wrap (97+n % 26)=97+n % 26:=uM ⟨by omega,by omega⟩;have hw2:IntKind.u8.wrap (97+n % 26)=97+n % 26:=by
   unfold IntKind.wrap;simp only[IntKind.signed,IntKind.bits,Bool.false_and,Bool.false_eq_true,if_false];omega
  have hw3:IntKind.i64.wrap (n / 26)=n / 26:=uM ⟨by omega,by omega⟩;have hc:=jj7 (n / 26) (by omega) (by omega);obtain⟨c,hcc⟩:∃c,c=(97+n % 26).toNat.toUInt8:=⟨_,rfl⟩;have hbs:mU ([[D.int .u8 (97+n % 26)]].take 1)=some [c]:=by
   have:(0≤97+n % 26∧97+n % 26<256):=by omega
   simp[mU,zc0,this,hcc]
  have ha:((ByteArray.mk #[39]).size+(ByteArray.mk #[c]).size≤9223372036854775807)=True:=by
   simp only[eq_iff_iff,iff_true];show 1+1≤_;omega
  simp -implicitDefEqProofs only[oS.d,J0,J1,J2,J3,J4,J5,J6,J7,J8,↓reduceIte,reduceCtorEq,h1,gU,hm,hq,e26,hw1,hw2,hw3];rw[ki2 wB ti9 rfl rfl ki4 rfl rfl ⟨Nat.one_ne_zero,ks0 _⟩ hbs];simp -implicitDefEqProofs only[oS.d,J0,J1,J2,J3,J4,J5,J6,J7,J8,↓reduceIte,reduceCtorEq,ha];by_cases h26:26≤n
  ·have h2:(26≤n)=True:=by simp[h26]
   have hz:=zl2 (n:=n / 26) ⟨by omega,by omega⟩;have hcz:((ByteArray.mk #[39]++ByteArray.mk #[c]).size+(oL (n / 26)).size≤9223372036854775807)=True:=by
    rw[bM];have e1:(ByteArray.mk #[39]).size=1:=rfl;have e2:(ByteArray.mk #[c]).size=1:=rfl;simp only[eq_iff_iff,iff_true];omega
   simp -implicitDefEqProofs only[oS.d,J0,J1,J2,J3,J4,J5,J6,J7,J8,↓reduceIte,reduceCtorEq,h2,gU,hq,e26,hw3];refine aM [] hc rfl rfl rfl rfl ?_;unfold oL at hcz;simp -implicitDefEqProofs only[oS.d,J0,J1,J2,J3,J4,J5,J6,J7,J8,↓reduceIte,reduceCtorEq,hcz];apply aH [];rfl;rfl;exact⟨by simp only[h0,h26,if_true,if_false,←hcc];rfl,rfl⟩
  ·have h2:(26≤n)=False:=by simp[h26]
   simp -implicitDefEqProofs only[oS.d,J0,J1,J2,J3,J4,J5,J6,J7,J8,↓reduceIte,reduceCtorEq,h2];apply aH [];rfl;rfl;exact⟨by simp only[h0,h26,if_true,if_false,←hcc];rfl,rfl⟩
theorem zP1 (a:Ty) (c:Bool) (hs:(tyB a).size≤100000000000000) (hl:a.kids.length<1000000000) (hc:VC kp8 226 [tyV a] [] fun r h'=>r = .one (.d (.str (tyB a)))∧h'=[]) :
  VC kp8 265 [tyV a,.one (.d (.bool c))] [] fun r h'=>r = .one (.d (.str (wiB a c (tyB a))))∧h'=[]:=by
 generalize tyB a=s at hs hc ⊢;obtain⟨k,n,l⟩:=a;simp only[tyV,aF,kq1,kq5]at hc ⊢;have hl3:=cS l;unfold wiB;refine aU mixed jR2 (by simp) ?_;show vwp kp8 0 zE2 _ [(0,.agg [.d (.int .i64 k),.d (.int .i64 n),.d (.sl (ks8 l))]),(1,.one (.d (.bool c)))] [];conv in zE2=>cbv
 rw[aO];have e1:((ByteArray.mk #[40]).size+s.size≤9223372036854775807)=True:=by
  have e1:(ByteArray.mk #[40]).size=1:=rfl;simp only[eq_iff_iff,iff_true];omega
 have e2:((ByteArray.mk #[40]++s).size+(ByteArray.mk #[41]).size≤9223372036854775807)=True:=by
  have e1:(ByteArray.mk #[40]).size=1:=rfl;have e2:(ByteArray.mk #[41]).size=1:=rfl;rw[bM];simp only[eq_iff_iff,iff_true];omega
 cases c with
 |false=>
  simp -implicitDefEqProofs only[oS.d,J0,J1,J2,J3,J4,J5,J6,J7,J8,↓reduceIte,reduceCtorEq,hl3];refine aM [] hc rfl rfl rfl rfl ?_;simp -implicitDefEqProofs only[oS.d,J0,J1,J2,J3,J4,J5,J6,J7,J8,↓reduceIte,reduceCtorEq];apply aH [];rfl;rfl;exact⟨rfl,rfl⟩
 |true=>
  by_cases h2:l.length=2
  ·have h3:((l.length:Int)=2)=True:=by simp;omega
   simp -implicitDefEqProofs only[oS.d,J0,J1,J2,J3,J4,J5,J6,J7,J8,↓reduceIte,reduceCtorEq,hl3,h3];refine aM [] hc rfl rfl rfl rfl ?_;simp -implicitDefEqProofs only[oS.d,J0,J1,J2,J3,J4,J5,J6,J7,J8,↓reduceIte,reduceCtorEq,e1,e2];apply aH [];rfl;rfl;exact⟨by rw[if_pos (show(Ty.mk k n l).kids.length=2 from h2)];rfl,rfl⟩
  ·have h3:((l.length:Int)=2)=False:=by simp;omega
   simp -implicitDefEqProofs only[oS.d,J0,J1,J2,J3,J4,J5,J6,J7,J8,↓reduceIte,reduceCtorEq,hl3,h3];refine aM [] hc rfl rfl rfl rfl ?_;simp -implicitDefEqProofs only[oS.d,J0,J1,J2,J3,J4,J5,J6,J7,J8,↓reduceIte,reduceCtorEq];apply aH [];rfl;rfl;exact⟨by rw[if_neg (show ¬(Ty.mk k n l).kids.length=2 from h2)],rfl⟩
theorem jk2 (a:Ty):a.kids.length<tyn a:=by
 obtain⟨k,n,l⟩:=a;have:=eC (f:=tyn) (fun t=>by cases t;simp[tyn]) l;simp only[Ty.kids,tyn,mK];omega
theorem jk3:∀(N:Nat) (t:Ty),tyn t≤N→tyn t<1000000000→eU t→(tyB t).size≤100000000000000→VC kp8 226 [tyV t] [] fun r h'=>r = .one (.d (.str (tyB t)))∧h'=[]
 |0,.mk k n l,h,_,_,_=>by simp only[tyn]at h;omega
 |N+1,.mk k n l,h,h9,ho,hs=>by
  have ih:=jk3 N;simp only[tyn,mK]at h h9;simp only[eU,zk8]at ho;have hlen:=eC (f:=tyn) (fun t=>by cases t;simp[tyn]) l;have hl3:=cS l;have hi1:=jj7 n ho.1.1 ho.1.2;have hi2:=zl2 ho.1;have hi3:=ki5 n ho.1;have hi4:((ByteArray.mk #[35]).size+(ByteArray.mk (Lib.itoa n).toArray).size≤9223372036854775807)=True:=by
   have e1:(ByteArray.mk #[35]).size=1:=rfl;unfold oL at hi2;simp only[eq_iff_iff,iff_true];omega
  have hi5:((ByteArray.mk #[63]).size+(ByteArray.mk (Lib.itoa n).toArray).size≤9223372036854775807)=True:=by
   have e1:(ByteArray.mk #[63]).size=1:=rfl;unfold oL at hi2;simp only[eq_iff_iff,iff_true];omega
  have hk:∀(s:ByteArray),kA k n=some s→tyB (.mk k n l)=s:=by
   intro s e;by_cases h2:l.length=2
   ·match l,h2 with
    |[a,b],_=>rw[zO3,e];rfl
   ·rw[zO4 k n h2,e];rfl
  simp only[tyV,aF,kq1,kq5];refine aU mixed jP9 (by simp) ?_;show vwp kp8 0 zD1 _ [(0,.agg [.d (.int .i64 k),.d (.int .i64 n),.d (.sl (ks8 l))])] [];conv in zD1=>cbv
  rw[aO];by_cases k1:k=1
  ·rw[hk zN9 (by simp[kA,k1])];have g1:(k=1)=True:=by simp[k1]
   simp -implicitDefEqProofs only[oS.d,J0,J1,J2,J3,J4,J5,J6,J7,J8,↓reduceIte,reduceCtorEq,g1];apply aH [];rfl;rfl;exact⟨rfl,rfl⟩
  have g1:(k=1)=False:=by simp[k1]
  by_cases k2:k=2
  ·rw[hk zO0 (by simp[kA,k2])];have g2:(k=2)=True:=by simp[k2]
   simp -implicitDefEqProofs only[oS.d,J0,J1,J2,J3,J4,J5,J6,J7,J8,↓reduceIte,reduceCtorEq,g1,g2];apply aH [];rfl;rfl;exact⟨rfl,rfl⟩
  have g2:(k=2)=False:=by simp[k2]
  by_cases k3:k=3
  ·rw[hk zO1 (by simp[kA,k3])];have g3:(k=3)=True:=by simp[k3]
   simp -implicitDefEqProofs only[oS.d,J0,J1,J2,J3,J4,J5,J6,J7,J8,↓reduceIte,reduceCtorEq,g1,g2,g3];apply aH [];rfl;rfl;exact⟨rfl,rfl⟩
  have g3:(k=3)=False:=by simp[k3]
  by_cases k6:k=6
  ·rw[hk (zO2++oL n) (by simp[kA,k6])];have g6:(k=6)=True:=by simp[k6]
   simp -implicitDefEqProofs only[oS.d,J0,J1,J2,J3,J4,J5,J6,J7,J8,↓reduceIte,reduceCtorEq,g1,g2,g3,g6];refine aM [] hi1 rfl rfl rfl rfl ?_;simp -implicitDefEqProofs only[oS.d,J0,J1,J2,J3,J4,J5,J6,J7,J8,↓reduceIte,reduceCtorEq,hi4];apply aH [];rfl;rfl;exact⟨rfl,rfl⟩
  have g6:(k=6)=False:=by simp[k6]
  by_cases k7:k=7
  ·rw[hk (sQm++oL n) (by simp[kA,k7])];have g7:(k=7)=True:=by simp[k7]
   simp -implicitDefEqProofs only[oS.d,J0,J1,J2,J3,J4,J5,J6,J7,J8,↓reduceIte,reduceCtorEq,g1,g2,g3,g6,g7];refine aM [] hi1 rfl rfl rfl rfl ?_;simp -implicitDefEqProofs only[oS.d,J0,J1,J2,J3,J4,J5,J6,J7,J8,↓reduceIte,reduceCtorEq,hi5];apply aH [];rfl;rfl;exact⟨rfl,rfl⟩
  have g7:(k=7)=False:=by simp[k7]
  by_cases k8:k=8
  ·rw[hk (wY n) (by simp[kA,k8])];have g8:(k=8)=True:=by simp[k8]
   simp -implicitDefEqProofs only[oS.d,J0,J1,J2,J3,J4,J5,J6,J7,J8,↓reduceIte,reduceCtorEq,g1,g2,g3,g6,g7,g8];refine aM [] hi3 rfl rfl rfl rfl ?_;simp -implicitDefEqProofs only[oS.d,J0,J1,J2,J3,J4,J5,J6,J7,J8,↓reduceIte,reduceCtorEq];apply aH [];rfl;rfl;exact⟨rfl,rfl⟩
  have g8:(k=8)=False:=by simp[k8]
  have hnl:kA k n=none:=by simp[kA,k1,k2,k3,k6,k7,k8]
  by_cases h2:l.length=2
  case neg=>
   have h3:((l.length:Int)=2)=False:=by simp;omega
   rw[zO4 k n h2,hnl];simp -implicitDefEqProofs only[oS.d,J0,J1,J2,J3,J4,J5,J6,J7,J8,↓reduceIte,reduceCtorEq,g1,g2,g3,g6,g7,g8,hl3,h3];apply aH [];rfl;rfl;exact⟨rfl,rfl⟩
  match l,h2 with
  |[a,b],_=>
  simp only[aK]at h h9;have oa:=ho.2 a (by simp);have ob:=ho.2 b (by simp);have htb:tyB (.mk k n [a,b])=oM k a b (tyB a) (tyB b):=by rw[zO3,hnl];rfl
  rw[htb]at hs ⊢;have na:=jk2 a;have nb:=jk2 b;have wa:=zl3 a (decide (eF a=4)) (tyB a);have wb:=zl3 b (decide (eF b=4)||decide (eF b=5)) (tyB b);have e4:zk9.size=4:=rfl;have e5:zl0.size=3:=rfl;by_cases k4:k=4
  ·have ht4:oM k a b (tyB a) (tyB b)=wiB a (decide (eF a=4)) (tyB a)++zk9++tyB b:=by unfold oM;rw[if_pos k4]
   rw[ht4,bM,bM]at hs;rw[ht4];have g4:(k=4)=True:=by simp[k4]
   have ca:=zP1 a (decide (eF a=4)) (by omega) (by omega) (ih a (by omega) (by omega) oa (by omega));have cb:=ih b (by omega) (by omega) ob (by omega);have f1:((wiB a (decide (eF a=4)) (tyB a)).size+(ByteArray.mk #[32,45,62,32]).size≤9223372036854775807)=True:=by
    have e4:(ByteArray.mk #[32,45,62,32]).size=4:=rfl;simp only[eq_iff_iff,iff_true];omega
   have f2:((wiB a (decide (eF a=4)) (tyB a)++ByteArray.mk #[32,45,62,32]).size+(tyB b).size≤9223372036854775807)=True:=by
    have e4:(ByteArray.mk #[32,45,62,32]).size=4:=rfl;rw[bM];simp only[eq_iff_iff,iff_true];omega
   generalize wiB a (decide (eF a=4)) (tyB a)=sa at ca f1 f2 ⊢;generalize tyB b=sb at cb f2 ⊢;obtain⟨ka,na',la⟩:=a;obtain⟨kb,nb',lb⟩:=b;simp only[tyV,aF,ks8,eF,kq1,kq5]at ca cb ⊢;have hc2:(((2:Nat):Int)=2)=True:=by simp
   have z0:((0:Int)≤0)=True:=by simp
   have z1:((0:Int)≤1)=True:=by simp
   have z2:Int.toNat 0=0:=rfl;have z3:Int.toNat 1=1:=rfl;simp -implicitDefEqProofs only[oS.d,J0,J1,J2,J3,J4,J5,J6,J7,J8,↓reduceIte,reduceCtorEq,g1,g2,g3,g6,g7,g8,g4,hc2,z0,z1,z2,z3,ks8];refine⟨⟨fun ga0=>?_,fun ga0=>?_⟩,fun ga0=>?_,fun ga0=>?_⟩;all_goals
    first|(have ga:(ka=4)=True:=eq_true ga0;simp only[ga,decide_true]at ca)|(have ga:(ka=4)=False:=eq_false ga0;simp only[ga,decide_false]at ca)
    refine aM [] ca rfl rfl rfl rfl ?_;simp -implicitDefEqProofs only[oS.d,J0,J1,J2,J3,J4,J5,J6,J7,J8,↓reduceIte,reduceCtorEq,f1];refine aM [] cb rfl rfl rfl rfl ?_;simp -implicitDefEqProofs only[oS.d,J0,J1,J2,J3,J4,J5,J6,J7,J8,↓reduceIte,reduceCtorEq,f2];apply aH [];rfl;rfl;exact⟨rfl,rfl⟩
  have g4:(k=4)=False:=by simp[k4]
  by_cases k5:k=5
  ·have ht4:oM k a b (tyB a) (tyB b)=wiB a (decide (eF a=4)) (tyB a)++zl0++wiB b (decide (eF b=4)||decide (eF b=5)) (tyB b):=by unfold oM;rw[if_neg k4,if_pos k5]
   rw[ht4,bM,bM]at hs;rw[ht4];have g5:(k=5)=True:=by simp[k5]
   have ca:=zP1 a (decide (eF a=4)) (by omega) (by omega) (ih a (by omega) (by omega) oa (by omega));have cb:=zP1 b (decide (eF b=4)||decide (eF b=5)) (by omega) (by omega) (ih b (by omega) (by omega) ob (by omega));have f1:((wiB a (decide (eF a=4)) (tyB a)).size+(ByteArray.mk #[32,42,32]).size≤9223372036854775807)=True:=by
    have e4:(ByteArray.mk #[32,42,32]).size=3:=rfl;simp only[eq_iff_iff,iff_true];omega
   have f2:((wiB a (decide (eF a=4)) (tyB a)++ByteArray.mk #[32,42,32]).size+(wiB b (decide (eF b=4)||decide (eF b=5)) (tyB b)).size≤9223372036854775807)=True:=by
    have e4:(ByteArray.mk #[32,42,32]).size=3:=rfl;rw[bM];simp only[eq_iff_iff,iff_true];omega
   generalize wiB a (decide (eF a=4)) (tyB a)=sa at ca f1 f2 ⊢;generalize wiB b (decide (eF b=4)||decide (eF b=5)) (tyB b)=sb at cb f2 ⊢;obtain⟨ka,na',la⟩:=a;obtain⟨kb,nb',lb⟩:=b;simp only[tyV,aF,ks8,eF,kq1,kq5]at ca cb ⊢;have hc2:(((2:Nat):Int)=2)=True:=by simp
   have z0:((0:Int)≤0)=True:=by simp
   have z1:((0:Int)≤1)=True:=by simp
   have z2:Int.toNat 0=0:=rfl;have z3:Int.toNat 1=1:=rfl;simp -implicitDefEqProofs only[oS.d,J0,J1,J2,J3,J4,J5,J6,J7,J8,↓reduceIte,reduceCtorEq,g1,g2,g3,g6,g7,g8,g4,g5,hc2,z0,z1,z2,z3,ks8];refine⟨⟨fun ga0=>⟨fun gb0=>?_,fun gb0=>?_⟩,fun ga0=>⟨fun gb0=>?_,fun gb0=>?_⟩⟩,fun ga0=>⟨fun gb0=>?_,fun gb0=>?_⟩,fun ga0=>⟨fun gb0=>?_,fun gb0=>?_⟩⟩;all_goals
    first|(have ga:(ka=4)=True:=eq_true ga0;simp only[ga,decide_true]at ca)|(have ga:(ka=4)=False:=eq_false ga0;simp only[ga,decide_false]at ca)
    refine aM [] ca rfl rfl rfl rfl ?_;simp -implicitDefEqProofs only[oS.d,J0,J1,J2,J3,J4,J5,J6,J7,J8,↓reduceIte,reduceCtorEq,f1,z0];first
    |(
     have gb:(kb=4)=True:=eq_true gb0;simp only[gb,decide_true,Bool.true_or]at cb;refine aM [] cb rfl rfl rfl rfl ?_;simp -implicitDefEqProofs only[oS.d,J0,J1,J2,J3,J4,J5,J6,J7,J8,↓reduceIte,reduceCtorEq,f2];apply aH [];rfl;rfl;exact⟨rfl,rfl⟩
     )
    |(
     have gb:(kb=4)=False:=eq_false gb0;simp only[gb,decide_false,Bool.false_or]at cb;refine⟨fun gc0=>?_,fun gc0=>?_⟩;all_goals
      first|(have gc:(kb=5)=True:=eq_true gc0;simp only[gc,decide_true]at cb)|(have gc:(kb=5)=False:=eq_false gc0;simp only[gc,decide_false]at cb)
      refine aM [] cb rfl rfl rfl rfl ?_;simp -implicitDefEqProofs only[oS.d,J0,J1,J2,J3,J4,J5,J6,J7,J8,↓reduceIte,reduceCtorEq,f2];apply aH [];rfl;rfl;exact⟨rfl,rfl⟩
     )
  ·have ht4:oM k a b (tyB a) (tyB b)=sQm:=by unfold oM;rw[if_neg k4,if_neg k5]
   rw[ht4];have g5:(k=5)=False:=by simp[k5]
   obtain⟨ka,na',la⟩:=a;obtain⟨kb,nb',lb⟩:=b;have hc2:(((2:Nat):Int)=2)=True:=by simp
   have z0:((0:Int)≤0)=True:=by simp
   have z1:((0:Int)≤1)=True:=by simp
   have z2:Int.toNat 0=0:=rfl;have z3:Int.toNat 1=1:=rfl;simp only[aF,ks8];simp -implicitDefEqProofs only[oS.d,J0,J1,J2,J3,J4,J5,J6,J7,J8,↓reduceIte,reduceCtorEq,g1,g2,g3,g6,g7,g8,g4,g5,hc2,z0,z1,z2,z3,ks8];refine⟨?_,?_⟩;all_goals
    apply aH [];rfl;rfl;exact⟨rfl,rfl⟩
end Go.Vt.Tryz
