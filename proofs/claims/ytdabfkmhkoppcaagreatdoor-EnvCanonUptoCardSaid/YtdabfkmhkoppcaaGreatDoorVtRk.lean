import Derived.Test.YtdabfkmhkoppcaaGreatDoorVtTF
import Derived.Test.YtdabfkmhkoppcaaGreatDoorVtRead
import Derived.Test.YtdabfkmhkoppcaaGreatDoorRows
import Derived.ProofKit
import Derived.Lib.LaidTab
import Derived.MakeChecks
import Derived.JoinedCond
import Derived.Deep.DeepHandedRow
set_option linter.all false
set_option maxRecDepth 100000
open List renaming mem_append_right→kH8,sublist_append_right→kG4
open Nat renaming le_refl→ks0,lt_succ_self→kC2,strongRecOn→kG0
open Go.Proofs.Tryz renaming prog→kp8
open Go.Vt.aA renaming funs→kq8,sigs→kq9
namespace Go.Proofs.YtdabfkmhkoppcaaGreatDoor
open Go.ChangeShapes Go.WideShapes Go.ChangeAt Go.RowKit Go.Vt Go.Vt.Tryz
theorem Tryz.own:ownKnob kp8.godebug=none:=by kernel_rfl
theorem kp7:laidOutB kp8=true:=by kernel_rfl
def zm3:List TypeId:=[3,9,30,32,34,59,60,61,62,63,65,70,85,87,89,126,133,140,156,161,162]
theorem jk9:zm3.all (zr9 kp8 zm3)=true:=by kernel_rfl
def stq:Stx→Nat
 |.mk ts vs ss fs gs=>1+aK iF ts+aK iT vs+goS ss+goF fs+goG gs
 where
 goS:List (ByteArray×Stx)→Nat
  |[]=>0
  |(s,x)::r=>1+s.size+stq x+goS r
 goF:List (ByteArray×List Int×Stx×List Int×Stx)→Nat
  |[]=>0
  |(s,l,x,m,y)::r=>1+s.size+l.length+stq x+m.length+stq y+goF r
 goG:List (ByteArray×List Int×Stx)→Nat
  |[]=>0
  |(s,l,x)::r=>1+s.size+l.length+stq x+goG r
theorem uO {α:Type} {f g:α→Nat} (h:∀a,f a≤g a):∀l:List α,aK f l≤aK g l
 |[]=>ks0 _
 |a::r=>by have:=uO h r;have:=h a;simp only[aK];omega
theorem kl2:∀(s:Stx),stn s≤stq s∧wSt s≤stq s:=by
 intro s;induction s using Stx.ind with
 |h ts vs ss fs gs i1 i2 i3=>
 have hc:∀c:Ct,ctn c≤wCt c:=fun c=>by
  rw[tW];have:=uO (f:=tyn) (g:=tyq) (fun t=>(nN t).2) c.args;unfold wCt;omega
 have e1:=uO (f:=dC) (g:=iF) (fun a=>by
  rw[qE];have h1:=(nN a.t).2;have h2:=uO hc a.cts;unfold iF;omega) ts
 have e2:=uO (f:=dJ) (g:=iT) (fun a=>by
  rw[wD];have h1:=(nN a.s.t).2;unfold iT;omega) vs
 have gS:∀l:List (ByteArray×Stx),(∀x∈l,stn x.2≤stq x.2∧wSt x.2≤stq x.2)→stn.goS l≤stq.goS l∧wSt.goS l≤stq.goS l:=by
  intro l;induction l with
  |nil=>intro _;exact⟨ks0 _,ks0 _⟩
  |cons x l ih=>
   obtain⟨s,x⟩:=x;intro h;have h1:=h (s,x) (by simp);have h2:=ih fun y hy=>h y (by simp[hy]);simp only[stn.goS,stq.goS,wSt.goS]at h1 ⊢;omega
 have gF:∀l:List (ByteArray×List Int×Stx×List Int×Stx),(∀x∈l,(stn x.2.2.1≤stq x.2.2.1∧wSt x.2.2.1≤stq x.2.2.1)∧(stn x.2.2.2.2≤stq x.2.2.2.2∧wSt x.2.2.2.2≤stq x.2.2.2.2))→stn.goF l≤stq.goF l∧wSt.goF l≤stq.goF l:=by
  intro l;induction l with
  |nil=>intro _;exact⟨ks0 _,ks0 _⟩
  |cons x l ih=>
   obtain⟨s,p,x,q,y⟩:=x;intro h;have h1:=h (s,p,x,q,y) (by simp);have h2:=ih fun y hy=>h y (by simp[hy]);simp only[stn.goF,stq.goF,wSt.goF]at h1 ⊢;omega
 have gG:∀l:List (ByteArray×List Int×Stx),(∀x∈l,stn x.2.2≤stq x.2.2∧wSt x.2.2≤stq x.2.2)→stn.goG l≤stq.goG l∧wSt.goG l≤stq.goG l:=by
  intro l;induction l with
  |nil=>intro _;exact⟨ks0 _,ks0 _⟩
  |cons x l ih=>
   obtain⟨s,q,y⟩:=x;intro h;have h1:=h (s,q,y) (by simp);have h2:=ih fun y hy=>h y (by simp[hy]);simp only[stn.goG,stq.goG,wSt.goG]at h1 ⊢;omega
 have k3:=gS ss i1;have k4:=gF fs i2;have k5:=gG gs i3;simp only[stn,stq,wSt];omega
section
variable {H:Type} {enc:TypeId×Value→H} {w:World} {base:Nat} {sp:Nat→Bool} {held:Bool}
def Trd (enc:TypeId×Value→H) (w:World) (base:Nat) (sp:Nat→Bool) (held:Bool) (fuel:Nat) (t:TypeId) (d:DataW H):Prop:=∃cs ps,DataW.trod enc kp8 w base sp held fuel t cs=some (d,ps)
def FR (enc:TypeId×Value→H) (w:World) (base:Nat) (sp:Nat→Bool) (held:Bool) (fuel:Nat):List TypeId→List (DataW H)→Prop
 |[],[]=>True
 |t::ts,d::ds=>Trd enc w base sp held fuel t d∧FR enc w base sp held fuel ts ds
 |_,_=>False
theorem FR.cons {fuel:Nat} {t:TypeId} {ts:List TypeId} {ds:List (DataW H)} (h:FR enc w base sp held fuel (t::ts) ds):∃d r,ds=d::r∧Trd enc w base sp held fuel t d∧FR enc w base sp held fuel ts r:=by
 cases ds with
 |nil=>exact h.elim
 |cons d r=>exact⟨d,r,rfl,h.1,h.2⟩
theorem FR.nil {fuel:Nat} {ds:List (DataW H)} (h:FR enc w base sp held fuel [] ds):ds=[]:=by
 cases ds with
 |nil=>rfl
 |cons d r=>exact h.elim
theorem jl0 {fuel:Nat} {cs:List Value}:∀{fs:List Field} {xs:List (DataW H×List MemPlace)},fs.mapM (fun f=>DataW.trod enc kp8 w base sp held fuel f.type ((cs.drop f.offset).take (kp8.cellsOf f.type)))=some xs→FR enc w base sp held fuel (fs.map (·.type)) (xs.map (·.1))
 |[],xs,h=>by simp at h;subst h;trivial
 |f::r,xs,h=>by
  rw[List.mapM_cons]at h;cases hf:DataW.trod enc kp8 w base sp held fuel f.type ((cs.drop f.offset).take (kp8.cellsOf f.type))with
  |none=>simp[hf]at h
  |some y=>
   cases hl:r.mapM (fun f=>DataW.trod enc kp8 w base sp held fuel f.type ((cs.drop f.offset).take (kp8.cellsOf f.type)))with
   |none=>simp[hf,hl]at h
   |some ys=>
    simp[hf,hl]at h;subst h;exact⟨⟨_,y.2,hf⟩,jl0 hl⟩
theorem qV {t:TypeId} {fs:Array Field} {ts:List TypeId} (hu:kp8.underlying t=some (.struct fs)) (hts:fs.toList.map (·.type)=ts) {fuel:Nat} {d:DataW H} (h:Trd enc w base sp held fuel t d) :
  ∃m ds,m<fuel∧d = .agg ds∧FR enc w base sp held m ts ds:=by
 obtain⟨cs,ps,h⟩:=h;cases fuel with
 |zero=>simp[DataW.trod]at h
 |succ m=>
  obtain⟨_,xs,hxs,rfl⟩:=ju2 hu h;exact⟨m,_,kC2 m,rfl,hts▸jl0 hxs⟩
theorem jl1 (d:DataW H):1≤Rows.uptoBulk d:=by
 cases d with
 |lit l=>cases l<;>simp[Rows.uptoBulk]
 |_=>simp[Rows.uptoBulk]
def Rd (enc:TypeId×Value→H) (w:World) (base:Nat) (sp:Nat→Bool) (held:Bool) {α:Type} (fuel:Nat) (t:TypeId) (e:α→List D) (n:α→Nat):Prop:=∀d:DataW H,Trd enc w base sp held fuel t d→∃a,rdD d=e a∧n a≤Rows.uptoBulk d
theorem zm4 (fuel:Nat):Rd enc w base sp held fuel 3 (fun n:Int=>[D.int .i64 n]) (fun _=>1):=by
 rintro d ⟨cs,ps,h⟩;obtain⟨n,_,rfl,_⟩:=zX1 Tryz.underlying3 h;exact⟨n,rfl,jl1 _⟩
theorem kl3 (fuel:Nat):Rd enc w base sp held fuel 3 (fun n:Int=>[D.int .i64 n]) (fun n=>if -9223372036854775808≤n∧n≤9223372036854775807 then 1 else 1000000000000):=by
 rintro d ⟨cs,ps,h⟩;obtain⟨n,_,rfl,hw⟩:=zX1 Tryz.underlying3 h;have hr:-9223372036854775808≤n∧n≤9223372036854775807:=by
  simp[Lit.wf,IntKind.min,IntKind.max,IntKind.signed,IntKind.bits]at hw;omega
 exact⟨n,rfl,by dsimp only;rw[if_pos hr];exact jl1 _⟩
theorem kl4 (l:List UInt8):1+(ByteArray.mk l.toArray).size≤Rows.uptoBulk (DataW.lit (.string l):DataW H):=by
 show 1+l.toArray.size≤l.length+1;rw[List.size_toArray];omega
theorem zm5 (fuel:Nat):Rd enc w base sp held fuel 9 (fun s:ByteArray=>[D.str s]) (fun s=>1+s.size):=by
 rintro d ⟨cs,ps,h⟩;cases fuel with
 |zero=>simp[DataW.trod]at h
 |succ fuel=>
  unfold DataW.trod at h;rw[Tryz.underlying9]at h
  match cs with
  |[]=>simp at h
  |_::_::_=>simp at h
  |[v]=>
   cases v<;>simp at h
   obtain⟨_,rfl,_⟩:=h;exact⟨_,rfl,kl4 _⟩
theorem qW {α:Type} {e:α→List D} {n:α→Nat} {t el:TypeId} (hu:kp8.underlying t=some (.slice el)) {fuel:Nat} (hr:∀m,m<fuel→Rd enc w base sp held m el e n):Rd enc w base sp held fuel t (fun l:List α=>[D.sl (l.map e)]) (fun l=>1+aK n l):=by
 rintro d ⟨cs,ps,h⟩;cases fuel with
 |zero=>simp[DataW.trod]at h
 |succ m=>
  rcases ju3 hu h with⟨rfl,_⟩|⟨elems,rest,rfl,_,hx⟩
  ·exact⟨[],by simp[rdD],by simp[aK,Rows.uptoBulk]⟩
  ·have key:∀l:List (DataW H),(∀x∈l,∃a,rdD x=e a∧n a≤Rows.uptoBulk x)→∃al:List α,rK l=al.map e∧aK n al≤Rows.uptoBulkAll l:=by
    intro l;induction l with
    |nil=>intro _;exact⟨[],by simp[rK],by simp[aK]⟩
    |cons d r ih=>
     intro h;obtain⟨a,h1,h2⟩:=h d (by simp);obtain⟨al,h3,h4⟩:=ih fun x hx=>h x (by simp[hx]);refine⟨a::al,by simp[rK,h1,h3],?_⟩;simp only[aK,Rows.uptoBulkAll];omega
   obtain⟨al,h1,h2⟩:=key elems fun x hxm=>by
    obtain⟨cs',ps',htr⟩:=hx x hxm;exact hr m (kC2 m) x ⟨cs',ps',htr⟩
   exact⟨al,by simp[rdD,h1],by simp only[Rows.uptoBulk];omega⟩
theorem jl2 {α:Type}:∀l:List α,aK (fun _=>1) l=l.length
 |[]=>rfl
 |_::r=>by simp only[aK,jl2 r,List.length_cons];omega
theorem jl3:∀l:List Ty,aK tyq l=tyq.go l:=fun l=>(zl8 l).symm
theorem jl4 (fuel:Nat):Rd enc w base sp held fuel 85 (fun l:List Int=>[D.sl (nums l)]) (fun l=>1+l.length):=by
 intro d h;obtain⟨l,h1,h2⟩:=qW Tryz.underlying85 (fun m _=>zm4 m) d h;exact⟨l,h1,by simp only[jl2]at h2;exact h2⟩
theorem zP5:∀fuel:Nat,Rd enc w base sp held fuel 32 aF tyq:=by
 intro fuel;induction fuel using kG0 with
 |ind fuel ih=>
 intro d h;obtain⟨m,ds,hm,rfl,hf⟩:=qV (ts:=[3,3,30]) Tryz.underlying32 rfl h;obtain⟨d1,_,rfl,g1,hf⟩:=hf.cons;obtain⟨d2,_,rfl,g2,hf⟩:=hf.cons;obtain⟨d3,_,rfl,g3,hf⟩:=hf.cons;obtain rfl:=hf.nil;obtain⟨a1,e1,b1⟩:=zm4 m _ g1;obtain⟨a2,e2,b2⟩:=kl3 m _ g2;obtain⟨a3,e3,b3⟩:=qW Tryz.underlying30 (fun k hk=>ih k (by omega)) _ g3;simp only[jl3]at b3
 try dsimp only at b1 b2 b3
 refine⟨.mk a1 a2 a3,by simp[rdD,jT,e1,e2,e3,aF,eI],?_⟩;simp only[tyq,Rows.uptoBulk,Rows.uptoBulkAll];omega
theorem kl5 (fuel:Nat):Rd enc w base sp held fuel 30 (fun l:List Ty=>[D.sl (aF.encs l)]) (fun l=>1+tyq.go l):=by
 intro d h;obtain⟨l,h1,h2⟩:=qW Tryz.underlying30 (fun m _=>zP5 m) d h;exact⟨l,by simp only[eI];exact h1,by simp only[jl3]at h2;exact h2⟩
theorem kl6 (fuel:Nat):Rd enc w base sp held fuel 34 cZ (fun s=>1+tyq s.t):=by
 intro d h;obtain⟨m,ds,hm,rfl,hf⟩:=qV (ts:=[3,32]) Tryz.underlying34 rfl h;obtain⟨d1,_,rfl,g1,hf⟩:=hf.cons;obtain⟨d2,_,rfl,g2,hf⟩:=hf.cons;obtain rfl:=hf.nil;obtain⟨a1,e1,b1⟩:=zm4 m _ g1;obtain⟨a2,e2,b2⟩:=zP5 m _ g2
 try dsimp only at b1 b2
 refine⟨⟨a1,a2⟩,by simp[rdD,jT,e1,e2,cZ],?_⟩;simp only[Rows.uptoBulk,Rows.uptoBulkAll];omega
theorem kl7 (fuel:Nat):Rd enc w base sp held fuel 156 bC wCt:=by
 intro d h;obtain⟨m,ds,hm,rfl,hf⟩:=qV (ts:=[9,30]) Tryz.underlying156 rfl h;obtain⟨d1,_,rfl,g1,hf⟩:=hf.cons;obtain⟨d2,_,rfl,g2,hf⟩:=hf.cons;obtain rfl:=hf.nil;obtain⟨a1,e1,b1⟩:=zm5 m _ g1;obtain⟨a2,e2,b2⟩:=kl5 m _ g2
 try dsimp only at b1 b2
 refine⟨⟨a1,a2⟩,by simp[rdD,jT,e1,e2,bC],?_⟩;simp only[wCt,←zl8,Rows.uptoBulk,Rows.uptoBulkAll];omega
theorem kl8 (fuel:Nat):Rd enc w base sp held fuel 70 (fun l:List Ct=>[D.sl (l.map bC)]) (fun l=>1+aK wCt l):=qW Tryz.underlying70 (fun m _=>kl7 m)
theorem kl9 {t:TypeId} {fs:Array Field} (hu:kp8.underlying t=some (.struct fs)) (hts:fs.toList.map (·.type)=[9,32,70]) (fuel:Nat):Rd enc w base sp held fuel t aD iF:=by
 intro d h;obtain⟨m,ds,hm,rfl,hf⟩:=qV hu hts h;obtain⟨d1,_,rfl,g1,hf⟩:=hf.cons;obtain⟨d2,_,rfl,g2,hf⟩:=hf.cons;obtain⟨d3,_,rfl,g3,hf⟩:=hf.cons;obtain rfl:=hf.nil;obtain⟨a1,e1,b1⟩:=zm5 m _ g1;obtain⟨a2,e2,b2⟩:=zP5 m _ g2;obtain⟨a3,e3,b3⟩:=kl8 m _ g3
 try dsimp only at b1 b2 b3
 refine⟨⟨a1,a2,a3⟩,by simp[rdD,jT,e1,e2,e3,aD],?_⟩;simp only[iF,Rows.uptoBulk,Rows.uptoBulkAll];omega
theorem km0 (fuel:Nat):Rd enc w base sp held fuel 126 aE iT:=by
 intro d h;obtain⟨m,ds,hm,rfl,hf⟩:=qV (ts:=[9,34]) Tryz.underlying126 rfl h;obtain⟨d1,_,rfl,g1,hf⟩:=hf.cons;obtain⟨d2,_,rfl,g2,hf⟩:=hf.cons;obtain rfl:=hf.nil;obtain⟨a1,e1,b1⟩:=zm5 m _ g1;obtain⟨a2,e2,b2⟩:=kl6 m _ g2
 try dsimp only at b1 b2
 refine⟨⟨a1,a2⟩,by simp[rdD,jT,e1,e2,aE],?_⟩;simp only[iT,Rows.uptoBulk,Rows.uptoBulkAll];omega
def wZ (x:List Int×Stx):List D:=.sl (nums x.1)::aA x.2
theorem jl5:∀l,kq8 l=l.map fun m=>D.str m.1::cU m.2
 |[]=>rfl
 |(s,l,x,m,y)::r=>by simp[kq8,jl5 r,cU]
theorem jl6:∀l,kq9 l=l.map fun m=>D.str m.1::wZ m.2
 |[]=>rfl
 |(s,l,x)::r=>by simp[kq9,jl6 r,wZ]
def fnq (x:FnE):Nat:=1+x.1.length+stq x.2.1+x.2.2.1.length+stq x.2.2.2
def abq (x:List Int×Stx):Nat:=1+x.1.length+stq x.2
theorem jl7:∀l:List (ByteArray×Stx),aK (fun m=>1+m.1.size+stq m.2) l=stq.goS l
 |[]=>rfl
 |(a,b)::r=>by simp only[aK,jl7 r,stq.goS]
theorem jl8:∀l:List (ByteArray×FnE),aK (fun m=>m.1.size+fnq m.2) l=stq.goF l
 |[]=>rfl
 |(a,b,c,d,e)::r=>by
  have:=jl8 r;show a.size+fnq (b,c,d,e)+aK (fun m=>m.1.size+fnq m.2) r=_;rw[this];simp only[fnq,stq.goF];omega
theorem jl9:∀l:List (ByteArray×List Int×Stx),aK (fun m=>m.1.size+abq m.2) l=stq.goG l
 |[]=>rfl
 |(a,b,c)::r=>by
  have:=jl9 r;show a.size+abq (b,c)+aK (fun m=>m.1.size+abq m.2) r=_;rw[this];simp only[abq,stq.goG];omega
theorem zP6 {fuel:Nat} (ih:∀m,m<fuel→Rd enc w base sp held m 65 aA stq):Rd enc w base sp held fuel 87 wZ abq:=by
 intro d h;obtain⟨m,ds,hm,rfl,hf⟩:=qV (ts:=[85,65]) Tryz.underlying87 rfl h;obtain⟨d1,_,rfl,g1,hf⟩:=hf.cons;obtain⟨d2,_,rfl,g2,hf⟩:=hf.cons;obtain rfl:=hf.nil;obtain⟨a1,e1,b1⟩:=jl4 m _ g1;obtain⟨a2,e2,b2⟩:=ih m hm _ g2
 try dsimp only at b1 b2
 refine⟨(a1,a2),by simp[rdD,jT,e1,e2,wZ],?_⟩;simp only[abq,Rows.uptoBulk,Rows.uptoBulkAll];omega
theorem km1 {fuel:Nat} (ih:∀m,m<fuel→Rd enc w base sp held m 65 aA stq):Rd enc w base sp held fuel 89 cU fnq:=by
 intro d h;obtain⟨m,ds,hm,rfl,hf⟩:=qV (ts:=[85,65,87]) Tryz.underlying89 rfl h;obtain⟨d1,_,rfl,g1,hf⟩:=hf.cons;obtain⟨d2,_,rfl,g2,hf⟩:=hf.cons;obtain⟨d3,_,rfl,g3,hf⟩:=hf.cons;obtain rfl:=hf.nil;obtain⟨a1,e1,b1⟩:=jl4 m _ g1;obtain⟨a2,e2,b2⟩:=ih m hm _ g2;obtain⟨a3,e3,b3⟩:=zP6 (fun k hk=>ih k (by omega)) _ g3
 try dsimp only at b1 b2 b3
 refine⟨(a1,a2,a3.1,a3.2),by simp[rdD,jT,e1,e2,e3,cU,wZ],?_⟩;simp only[fnq,abq,Rows.uptoBulk,Rows.uptoBulkAll]at *;omega
theorem zP7 {α:Type} {e:α→List D} {n:α→Nat} {t u:TypeId} {fs:Array Field} (hu:kp8.underlying t=some (.struct fs)) (hts:fs.toList.map (·.type)=[9,u]) {fuel:Nat} (ih:∀m,m<fuel→Rd enc w base sp held m u e n):Rd enc w base sp held fuel t (fun x:ByteArray×α=>.str x.1::e x.2) (fun x=>1+x.1.size+n x.2):=by
 intro d h;obtain⟨m,ds,hm,rfl,hf⟩:=qV hu hts h;obtain⟨d1,_,rfl,g1,hf⟩:=hf.cons;obtain⟨d2,_,rfl,g2,hf⟩:=hf.cons;obtain rfl:=hf.nil;obtain⟨a1,e1,b1⟩:=zm5 m _ g1;obtain⟨a2,e2,b2⟩:=ih m hm _ g2
 try dsimp only at b1 b2
 refine⟨(a1,a2),by simp[rdD,jT,e1,e2],?_⟩;simp only[Rows.uptoBulk,Rows.uptoBulkAll];omega
theorem km2:∀fuel:Nat,Rd enc w base sp held fuel 65 aA stq:=by
 intro fuel;induction fuel using kG0 with
 |ind fuel ih=>
 intro d h;obtain⟨m,ds,hm,rfl,hf⟩:=qV (ts:=[59,60,61,62,63]) Tryz.underlying65 rfl h;obtain⟨d1,_,rfl,g1,hf⟩:=hf.cons;obtain⟨d2,_,rfl,g2,hf⟩:=hf.cons;obtain⟨d3,_,rfl,g3,hf⟩:=hf.cons;obtain⟨d4,_,rfl,g4,hf⟩:=hf.cons;obtain⟨d5,_,rfl,g5,hf⟩:=hf.cons;obtain rfl:=hf.nil;obtain⟨a1,e1,b1⟩:=qW Tryz.underlying59 (fun k _=>kl9 Tryz.underlying133 rfl k) _ g1;obtain⟨a2,e2,b2⟩:=qW Tryz.underlying60 (fun k _=>km0 k) _ g2;obtain⟨a3,e3,b3⟩:=qW Tryz.underlying61 (fun k hk=>zP7 Tryz.underlying140 rfl (fun j hj=>ih j (by omega))) _ g3;obtain⟨a4,e4,b4⟩:=qW Tryz.underlying62 (fun k hk=>zP7 Tryz.underlying161 rfl (fun j hj=>km1 (fun i hi=>ih i (by omega)))) _ g4;obtain⟨a5,e5,b5⟩:=qW Tryz.underlying63 (fun k hk=>zP7 Tryz.underlying162 rfl (fun j hj=>zP6 (fun i hi=>ih i (by omega)))) _ g5;have c3:=jl7 a3;have c4:=jl8 a4;have c5:=jl9 a5;have f4:=uO (f:=fun m:ByteArray×FnE=>m.1.size+fnq m.2) (g:=fun m=>1+m.1.size+fnq m.2) (fun a=>by omega) a4;have f5:=uO (f:=fun m:ByteArray×List Int×Stx=>m.1.size+abq m.2) (g:=fun m=>1+m.1.size+abq m.2) (fun a=>by omega) a5
 try dsimp only at b1 b2 b3 b4 b5
 refine⟨.mk a1 a2 a3 a4 a5,by simp[rdD,jT,e1,e2,e3,e4,e5,aA,zG,jl5,jl6],?_⟩;simp only[stq,Rows.uptoBulk,Rows.uptoBulkAll];omega
end
def pl0:Pl:={ at_:=fun _=>none,X:=fun _=>False }
theorem km3 {w:World} {a b c:String×DataW Unit} (hc:c=("internal/strconv.uint64pow10",Lib.tabData .u64 Lib.pow10Tab)) (h:laidMet kp8 [a,b,c] w):Lib.TabIs kp8 w "internal/strconv.uint64pow10" .u64 Lib.pow10Tab:=by
 subst hc;obtain⟨a1,a2⟩:=a;obtain⟨b1,b2⟩:=b;obtain⟨ps,⟨_,_,_,_,p1,q1,_,_,_,_,⟨_,_,_,_,p2,q2,_,_,_,_,hv,rfl⟩,rfl⟩,hnd,hrows⟩:=h;exact Lib.tabIs_of_head (g:=1) (t:=425) (e:=391) (n:=20) zu7 (by kernel_rfl) (by kernel_rfl) (by kernel_rfl) (by kernel_rfl) (by kernel_rfl)
  (rest:=[]) ⟨q2,hv,List.Nodup.sublist ((kG4 _ _).trans (kG4 _ _)) hnd,fun b off hm=>hrows b off (kH8 _ (kH8 _ hm))⟩
theorem km4 {w:World} (h:Lib.TabIs kp8 w "internal/strconv.uint64pow10" .u64 Lib.pow10Tab):aR w pl0 []:=by
 refine⟨by simp,by simp,by simp,by simp,fun b h=>h.elim,by simp,fun b c hb=>⟨?_,fun⟨id,o,h1,_⟩=>by simp at h1⟩⟩;have hb':(if b=1 then some zZ6 else none)=some c:=hb;split at hb'
 ·rename_i e;subst e;cases hb';unfold Lib.TabIs World.var? at h;rw[zu7]at h;simp only[Option.bind_some]at h;split at h
  ·rename_i cs T fr hc;cases h;exact⟨T,fr,hc⟩
  ·cases h
 ·cases hb'
theorem jm0:Mut pl0 []=fun _=>False:=by
 funext b;apply propext;constructor
 ·rintro(⟨id,o,h1,_⟩|h)
  ·simp at h1
  ·exact h
 ·intro h;exact h.elim
theorem km5 {H:Type} {enc:TypeId×Value→H} {w:World} {sp:Nat→Bool} {held:Bool} {t:TypeId} (ht:t∈zm3) {v:Value} {d:DataW H} {ps:List MemPlace} {xs:List D}
  {fuel:Nat} (h:DataW.trod enc kp8 w 0 sp held fuel t v.cells.toList=some (d,ps)) (hx:rdD d=xs) (h1:xs.length≠1):aZ w pl0 [] (.agg (xs.map .d)) v:=by
 have hr:=zX0 jk9 fuel t _ d ps ht h;rw[hx]at hr;obtain⟨r1,r2,r3⟩:=hr;have key:∀cs:Array Value,v = .agg cs→aZ w pl0 [] (.agg (xs.map .d)) v:=by
  rintro cs rfl;have r1':cs.size=kp8.cellsOf t:=by simpa[Value.cells]using r1
  have r3':∀(j:Nat) (x:D) (v:Value),xs[j]?=some x→cs[j]?=some v→cM w (fun _=>False) x v:=fun j x v a b=>r3 j x v a (by simpa[Value.cells]using b);refine .agg (by simp;omega) (fun j l v hj hv=>?_) (fun v hv=>?_)
  ·rw[List.getElem?_map]at hj;obtain⟨x,hx,rfl⟩:=Option.map_eq_some_iff.1 hj;refine .d ?_;rw[jm0];exact r3' j x v hx hv
  ·obtain⟨j,hj,hv⟩:=Array.mem_iff_getElem.1 hv;exact(r3' j (xs[j]'(by omega)) v (List.getElem?_eq_getElem _) (by rw[←hv];exact Array.getElem?_eq_getElem hj)).oneCell
 cases v with
 |agg cs=>exact key cs rfl
 |_=>exfalso;apply h1;rw[r2,←r1];rfl
theorem km6 {H:Type} {enc:TypeId×Value→H} {w:World} {sp:Nat→Bool} {held:Bool} {t:TypeId} (ht:t∈zm3) {v:Value} {d:DataW H} {ps:List MemPlace} {x:D}
  {fuel:Nat} (h:DataW.trod enc kp8 w 0 sp held fuel t v.cells.toList=some (d,ps)) (hx:rdD d=[x]) (ho:v.cells.toList=[v]):aZ w pl0 [] (.one (.d x)) v:=by
 have hr:=zX0 jk9 fuel t _ d ps ht h;rw[hx,ho]at hr;obtain⟨r1,r2,r3⟩:=hr;have r:=r3 0 x v rfl rfl;refine .one r.oneCell (.d ?_);rw[jm0];exact r
theorem jm1 {H:Type} {enc:TypeId×Value→H} {P:Program} {w:World} {base:Nat} {sp:Nat→Bool} {held:Bool} {t:TypeId} {ts:List TypeId} {v:Value} {vs:List Value} {d:DataW H} {ds:List (DataW H)} {p p':List MemPlace}
  (h:DataW.Trod enc P w base sp held t v d p) (hs:DataW.TrodAll enc P w base sp held ts vs ds p'):DataW.TrodAll enc P w base sp held (t::ts) (v::vs) (d::ds) (p++p'):=⟨p,p',h,hs,rfl⟩
theorem km7 {w w':World} {μ':Pl} {h':aB} (g:Go.Vt.Good w pl0 [] w' μ' h'):Below w.heap.size w w':=
 ⟨g.os,g.tape,g.output,g.size,fun b hb=>g.block b hb (by rintro⟨id,o,h1,_⟩;simp at h1)⟩
theorem km8 {H:Type} {enc:TypeId×Value→H} {P:Program} {f:Func} {s:ChangeSpec} {apart fresh handsOn mZ:Bool} {W W':World} {args:Array Value} {v:Value} {ds gs:List (DataW H)} {before pa pv:List MemPlace}
  (hW:DataW.Whole enc P f.params.toList s.vars apart W args.toList ds gs before) (hb:Below W.heap.size W W')
  (hres:∀(b:Nat) (sp:Nat→Bool) (hd:Bool),DataW.TrodAll enc P W' b sp hd f.resultTypes.toList (v.resultList f.resultTypes.size) (s.fn H (ds++gs)).results [])
  (hargs:∀sp:Nat→Bool,(∀p∈before,sp p.block=true)→DataW.TrodAll enc P W' 0 sp true f.params.toList args.toList (s.fn H (ds++gs)).args pa)
  (hvars:∀sp:Nat→Bool,(∀p∈before,sp p.block=true)→DataW.TrodVars enc P W' sp s.vars (s.fn H (ds++gs)).vars pv)
  (hps:before=pa++pv)
  (hok:∀(j:Nat) (t:TypeId) (r:Value),f.resultTypes[j]?=some t→(v.resultList f.resultTypes.size)[j]?=some r→Value.okWide P W' .any 0 t r) :
  s.post enc P f apart fresh handsOn mZ W args v W':=by
 have hold:∀p∈before,(fun b=>decide (b<W.heap.size)) p.block=true:=fun p hp=>by simpa using hW.lt p hp
 have hlt:=hW.lt;refine⟨ds,gs,before,[],pa,pv,hW,hres _ _ _,hargs _ hold,hvars _ hold,World.keptBut_mono (fun p hp=>⟨hp,?_⟩) (hb.frame (·∈before)),fun _=>?_⟩
 ·rw[hps,List.mem_append]at hp;exact Or.inr hp
 ·obtain⟨_,_,_,_,_,hz,hn⟩:=hW;refine⟨hok,_,_,([]++pa)++pv,⟨[]++pa,pv,trodAll_append (hargs _ (fun _ _=>rfl)) (hres _ _ _),hvars _ (fun _ _=>rfl),rfl,?_,?_⟩,?_⟩
  ·intro b off hp;have hp':MemPlace.cell b off∈before:=by rw[hps];simpa using hp
   rw[hb.frozen (p:=⟨b,off,none⟩) (hlt _ hp')];exact hz b off hp'
  ·intro ha;have:=hn ha;rw[hps]at this;simpa using this
  ·intro p hp _;rw[hps];simpa using hp
end Go.Proofs.YtdabfkmhkoppcaaGreatDoor
