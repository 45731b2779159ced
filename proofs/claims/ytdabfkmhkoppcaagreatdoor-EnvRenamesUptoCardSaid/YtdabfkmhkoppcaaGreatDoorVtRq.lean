import Derived.Test.YtdabfkmhkoppcaaGreatDoorVtEnvE
import Derived.Test.YtdabfkmhkoppcaaGreatDoorVtRead
import Derived.Test.YtdabfkmhkoppcaaGreatDoorRows
import Derived.ProofKit
import Derived.JoinedCond
import Derived.Deep.DeepHandedRow
set_option linter.all false
set_option maxRecDepth 100000
open Nat renaming le_refl→kf2,lt_succ_self→kp7,strongRecOn→kt4
open Go.Proofs.Tryz renaming prog→kd5
open Go.Vt.aA renaming funs→ke2,sigs→ke4
namespace Go.Proofs.YtdabfkmhkoppcaaGreatDoor
open Go.ChangeShapes Go.WideShapes Go.ChangeAt Go.RowKit Go.Vt Go.Vt.Tryz
theorem Tryz.own:ownKnob kd5.godebug=none:=by kernel_rfl
theorem kd4:laidOutB kd5=true:=by kernel_rfl
def zh4:List TypeId:=[3,9,30,32,34,59,60,61,62,63,65,70,85,87,89,126,133,140,156,161,162]
theorem jd1:zh4.all (zn4 kd5 zh4)=true:=by kernel_rfl
def rE (m:Tym):Nat:=cJ m+m.name.size
def rF (m:Vam):Nat:=cO m+m.name.size
def stq:Stx→Nat
 |.mk ts vs ss fs gs=>1+aT rE ts+aT rF vs+goS ss+goF fs+goG gs
 where
 goS:List (ByteArray×Stx)→Nat
  |[]=>0
  |(s,x)::r=>1+s.size+stq x+goS r
 goF:List (ByteArray×List Int×Stx×List Int×Stx)→Nat
  |[]=>0
  |(s,l,x,m,y)::r=>1+s.size+l.length+stq x+m.length+stq y+goF r
 goG:List (ByteArray×List Int×Stx)→Nat
  |[]=>0
  |(s,l,x)::r=>1+s.size+l.length+stq x+goG r
theorem mQ {α:Type} {f g:α→Nat} (h:∀a,f a≤g a):∀l:List α,aT f l≤aT g l
 |[]=>kf2 _
 |a::r=>by have:=mQ h r;have:=h a;simp only[aT];omega
theorem jd2:∀(s:Stx),stn s≤stq s∧(stq s<100000000000→cK s):=by
 intro s;induction s using Stx.ind with
 |h ts vs ss fs gs i1 i2 i3=>
 have e1:=mQ (f:=cJ) (g:=rE) (fun a=>by simp[rE]) ts;have e2:=mQ (f:=cO) (g:=rF) (fun a=>by simp[rF]) vs;have gS:∀l:List (ByteArray×Stx),(∀x∈l,stn x.2≤stq x.2∧(stq x.2<100000000000→cK x.2))→stn.goS l≤stq.goS l∧(stq.goS l<100000000000→cK.goS l):=by
  intro l;induction l with
  |nil=>intro _;exact⟨kf2 _,fun _=>trivial⟩
  |cons x l ih=>
   obtain⟨s,x⟩:=x;intro h;have h1:=h (s,x) (by simp);have h2:=ih fun y hy=>h y (by simp[hy]);simp only[stn.goS,stq.goS,cK.goS]at h1 ⊢;refine⟨by omega,fun hb=>⟨by omega,h1.2 (by omega),h2.2 (by omega)⟩⟩
 have gF:∀l:List (ByteArray×List Int×Stx×List Int×Stx),(∀x∈l,(stn x.2.2.1≤stq x.2.2.1∧(stq x.2.2.1<100000000000→cK x.2.2.1))∧(stn x.2.2.2.2≤stq x.2.2.2.2∧(stq x.2.2.2.2<100000000000→cK x.2.2.2.2)))→stn.goF l≤stq.goF l∧(stq.goF l<100000000000→cK.goF l):=by
  intro l;induction l with
  |nil=>intro _;exact⟨kf2 _,fun _=>trivial⟩
  |cons x l ih=>
   obtain⟨s,p,x,q,y⟩:=x;intro h;have h1:=h (s,p,x,q,y) (by simp);have h2:=ih fun y hy=>h y (by simp[hy]);simp only[stn.goF,stq.goF,cK.goF]at h1 ⊢;refine⟨by omega,fun hb=>⟨by omega,h1.1.2 (by omega),h1.2.2 (by omega),h2.2 (by omega)⟩⟩
 have gG:∀l:List (ByteArray×List Int×Stx),(∀x∈l,stn x.2.2≤stq x.2.2∧(stq x.2.2<100000000000→cK x.2.2))→stn.goG l≤stq.goG l∧(stq.goG l<100000000000→cK.goG l):=by
  intro l;induction l with
  |nil=>intro _;exact⟨kf2 _,fun _=>trivial⟩
  |cons x l ih=>
   obtain⟨s,q,y⟩:=x;intro h;have h1:=h (s,q,y) (by simp);have h2:=ih fun y hy=>h y (by simp[hy]);simp only[stn.goG,stq.goG,cK.goG]at h1 ⊢;refine⟨by omega,fun hb=>⟨by omega,h1.2 (by omega),h2.2 (by omega)⟩⟩
 have k3:=gS ss i1;have k4:=gF fs i2;have k5:=gG gs i3;simp only[stn,stq,cK];refine⟨by omega,fun hb=>⟨fun m hm=>?_,fun m hm=>?_,k3.2 (by omega),k4.2 (by omega),k5.2 (by omega)⟩⟩
 ·have h1:=cY (f:=rE) hm;have h2:m.name.size≤rE m:=by simp[rE]
  omega
 ·have h1:=cY (f:=rF) hm;have h2:m.name.size≤rF m:=by simp[rF]
  omega
section
variable {H:Type} {enc:TypeId×Value→H} {w:World} {base:Nat} {sp:Nat→Bool} {held:Bool}
def Trd (enc:TypeId×Value→H) (w:World) (base:Nat) (sp:Nat→Bool) (held:Bool) (fuel:Nat) (t:TypeId) (d:DataW H):Prop:=∃cs ps,DataW.trod enc kd5 w base sp held fuel t cs=some (d,ps)
def FR (enc:TypeId×Value→H) (w:World) (base:Nat) (sp:Nat→Bool) (held:Bool) (fuel:Nat):List TypeId→List (DataW H)→Prop
 |[],[]=>True
 |t::ts,d::ds=>Trd enc w base sp held fuel t d∧FR enc w base sp held fuel ts ds
 |_,_=>False
theorem FR.cons {fuel:Nat} {t:TypeId} {ts:List TypeId} {ds:List (DataW H)} (h:FR enc w base sp held fuel (t::ts) ds):∃d r,ds=d::r∧Trd enc w base sp held fuel t d∧FR enc w base sp held fuel ts r:=by
 cases ds with
 |nil=>exact h.elim
 |cons d r=>exact⟨d,r,rfl,h.1,h.2⟩
theorem FR.nil {fuel:Nat} {ds:List (DataW H)} (h:FR enc w base sp held fuel [] ds):ds=[]:=by
 cases ds with
 |nil=>rfl
 |cons d r=>exact h.elim
theorem jd3 {fuel:Nat} {cs:List Value}:∀{fs:List Field} {xs:List (DataW H×List MemPlace)},fs.mapM (fun f=>DataW.trod enc kd5 w base sp held fuel f.type ((cs.drop f.offset).take (kd5.cellsOf f.type)))=some xs→FR enc w base sp held fuel (fs.map (·.type)) (xs.map (·.1))
 |[],xs,h=>by simp at h;subst h;trivial
 |f::r,xs,h=>by
  rw[List.mapM_cons]at h;cases hf:DataW.trod enc kd5 w base sp held fuel f.type ((cs.drop f.offset).take (kd5.cellsOf f.type))with
  |none=>simp[hf]at h
  |some y=>
   cases hl:r.mapM (fun f=>DataW.trod enc kd5 w base sp held fuel f.type ((cs.drop f.offset).take (kd5.cellsOf f.type)))with
   |none=>simp[hf,hl]at h
   |some ys=>
    simp[hf,hl]at h;subst h;exact⟨⟨_,y.2,hf⟩,jd3 hl⟩
theorem pT {t:TypeId} {fs:Array Field} {ts:List TypeId} (hu:kd5.underlying t=some (.struct fs)) (hts:fs.toList.map (·.type)=ts) {fuel:Nat} {d:DataW H} (h:Trd enc w base sp held fuel t d) :
  ∃m ds,m<fuel∧d = .agg ds∧FR enc w base sp held m ts ds:=by
 obtain⟨cs,ps,h⟩:=h;cases fuel with
 |zero=>simp[DataW.trod]at h
 |succ m=>
  obtain⟨_,xs,hxs,rfl⟩:=jm4 hu h;exact⟨m,_,kp7 m,rfl,hts▸jd3 hxs⟩
theorem j95 (d:DataW H):1≤Rows.uptoBulk d:=by
 cases d with
 |lit l=>cases l<;>simp[Rows.uptoBulk]
 |_=>simp[Rows.uptoBulk]
def Rd (enc:TypeId×Value→H) (w:World) (base:Nat) (sp:Nat→Bool) (held:Bool) {α:Type} (fuel:Nat) (t:TypeId) (e:α→List D) (n:α→Nat):Prop:=∀d:DataW H,Trd enc w base sp held fuel t d→∃a,rdD d=e a∧n a≤Rows.uptoBulk d
theorem zh5 (fuel:Nat):Rd enc w base sp held fuel 3 (fun n:Int=>[D.int .i64 n]) (fun _=>1):=by
 rintro d ⟨cs,ps,h⟩;obtain⟨n,_,rfl,_⟩:=jm3 Tryz.underlying3 h;exact⟨n,rfl,j95 _⟩
theorem j96 (l:List UInt8):1+(ByteArray.mk l.toArray).size≤Rows.uptoBulk (DataW.lit (.string l):DataW H):=by
 show 1+l.toArray.size≤l.length+1;rw[List.size_toArray];omega
theorem zh6 (fuel:Nat):Rd enc w base sp held fuel 9 (fun s:ByteArray=>[D.str s]) (fun s=>1+s.size):=by
 rintro d ⟨cs,ps,h⟩;cases fuel with
 |zero=>simp[DataW.trod]at h
 |succ fuel=>
  unfold DataW.trod at h;rw[Tryz.underlying9]at h
  match cs with
  |[]=>simp at h
  |_::_::_=>simp at h
  |[v]=>
   cases v<;>simp at h
   obtain⟨_,rfl,_⟩:=h;exact⟨_,rfl,j96 _⟩
theorem pU {α:Type} {e:α→List D} {n:α→Nat} {t el:TypeId} (hu:kd5.underlying t=some (.slice el)) {fuel:Nat} (hr:∀m,m<fuel→Rd enc w base sp held m el e n):Rd enc w base sp held fuel t (fun l:List α=>[D.sl (l.map e)]) (fun l=>1+aT n l):=by
 rintro d ⟨cs,ps,h⟩;cases fuel with
 |zero=>simp[DataW.trod]at h
 |succ m=>
  rcases jm5 hu h with⟨rfl,_⟩|⟨elems,rest,rfl,_,hx⟩
  ·exact⟨[],by simp[rdD],by simp[aT,Rows.uptoBulk]⟩
  ·have key:∀l:List (DataW H),(∀x∈l,∃a,rdD x=e a∧n a≤Rows.uptoBulk x)→∃al:List α,qH l=al.map e∧aT n al≤Rows.uptoBulkAll l:=by
    intro l;induction l with
    |nil=>intro _;exact⟨[],by simp[qH],by simp[aT]⟩
    |cons d r ih=>
     intro h;obtain⟨a,h1,h2⟩:=h d (by simp);obtain⟨al,h3,h4⟩:=ih fun x hx=>h x (by simp[hx]);refine⟨a::al,by simp[qH,h1,h3],?_⟩;simp only[aT,Rows.uptoBulkAll];omega
   obtain⟨al,h1,h2⟩:=key elems fun x hxm=>by
    obtain⟨cs',ps',htr⟩:=hx x hxm;exact hr m (kp7 m) x ⟨cs',ps',htr⟩
   exact⟨al,by simp[rdD,h1],by simp only[Rows.uptoBulk];omega⟩
theorem jd4 {α:Type}:∀l:List α,aT (fun _=>1) l=l.length
 |[]=>rfl
 |_::r=>by simp only[aT,jd4 r,List.length_cons];omega
theorem zI5:∀l:List Ty,aT tyn l=tyn.go l
 |[]=>rfl
 |_::r=>by simp only[aT,zI5 r,tyn.go]
theorem zh7 (fuel:Nat):Rd enc w base sp held fuel 85 (fun l:List Int=>[D.sl (nums l)]) (fun l=>1+l.length):=by
 intro d h;obtain⟨l,h1,h2⟩:=pU Tryz.underlying85 (fun m _=>zh5 m) d h;exact⟨l,h1,by simp only[jd4]at h2;exact h2⟩
theorem zI6:∀fuel:Nat,Rd enc w base sp held fuel 32 aG tyn:=by
 intro fuel;induction fuel using kt4 with
 |ind fuel ih=>
 intro d h;obtain⟨m,ds,hm,rfl,hf⟩:=pT (ts:=[3,3,30]) Tryz.underlying32 rfl h;obtain⟨d1,_,rfl,g1,hf⟩:=hf.cons;obtain⟨d2,_,rfl,g2,hf⟩:=hf.cons;obtain⟨d3,_,rfl,g3,hf⟩:=hf.cons;obtain rfl:=hf.nil;obtain⟨a1,e1,b1⟩:=zh5 m _ g1;obtain⟨a2,e2,b2⟩:=zh5 m _ g2;obtain⟨a3,e3,b3⟩:=pU Tryz.underlying30 (fun k hk=>ih k (by omega)) _ g3;simp only[zI5]at b3
 try dsimp only at b1 b2 b3
 refine⟨.mk a1 a2 a3,by simp[rdD,jF,e1,e2,e3,aG,dN],?_⟩;simp only[tyn,Rows.uptoBulk,Rows.uptoBulkAll];omega
theorem j97 (fuel:Nat):Rd enc w base sp held fuel 30 (fun l:List Ty=>[D.sl (aG.encs l)]) (fun l=>1+tyn.go l):=by
 intro d h;obtain⟨l,h1,h2⟩:=pU Tryz.underlying30 (fun m _=>zI6 m) d h;exact⟨l,by simp only[dN];exact h1,by simp only[zI5]at h2;exact h2⟩
theorem j98 (fuel:Nat):Rd enc w base sp held fuel 34 gP (fun s=>1+tyn s.t):=by
 intro d h;obtain⟨m,ds,hm,rfl,hf⟩:=pT (ts:=[3,32]) Tryz.underlying34 rfl h;obtain⟨d1,_,rfl,g1,hf⟩:=hf.cons;obtain⟨d2,_,rfl,g2,hf⟩:=hf.cons;obtain rfl:=hf.nil;obtain⟨a1,e1,b1⟩:=zh5 m _ g1;obtain⟨a2,e2,b2⟩:=zI6 m _ g2
 try dsimp only at b1 b2
 refine⟨⟨a1,a2⟩,by simp[rdD,jF,e1,e2,gP],?_⟩;simp only[Rows.uptoBulk,Rows.uptoBulkAll];omega
theorem j99 (fuel:Nat):Rd enc w base sp held fuel 156 bD ctn:=by
 intro d h;obtain⟨m,ds,hm,rfl,hf⟩:=pT (ts:=[9,30]) Tryz.underlying156 rfl h;obtain⟨d1,_,rfl,g1,hf⟩:=hf.cons;obtain⟨d2,_,rfl,g2,hf⟩:=hf.cons;obtain rfl:=hf.nil;obtain⟨a1,e1,b1⟩:=zh6 m _ g1;obtain⟨a2,e2,b2⟩:=j97 m _ g2
 try dsimp only at b1 b2
 refine⟨⟨a1,a2⟩,by simp[rdD,jF,e1,e2,bD],?_⟩;simp only[ctn,Rows.uptoBulk,Rows.uptoBulkAll];omega
theorem ka0 (fuel:Nat):Rd enc w base sp held fuel 70 (fun l:List Ct=>[D.sl (l.map bD)]) (fun l=>1+aT ctn l):=pU Tryz.underlying70 (fun m _=>j99 m)
theorem ka1 {t:TypeId} {fs:Array Field} (hu:kd5.underlying t=some (.struct fs)) (hts:fs.toList.map (·.type)=[9,32,70]) (fuel:Nat):Rd enc w base sp held fuel t aD rE:=by
 intro d h;obtain⟨m,ds,hm,rfl,hf⟩:=pT hu hts h;obtain⟨d1,_,rfl,g1,hf⟩:=hf.cons;obtain⟨d2,_,rfl,g2,hf⟩:=hf.cons;obtain⟨d3,_,rfl,g3,hf⟩:=hf.cons;obtain rfl:=hf.nil;obtain⟨a1,e1,b1⟩:=zh6 m _ g1;obtain⟨a2,e2,b2⟩:=zI6 m _ g2;obtain⟨a3,e3,b3⟩:=ka0 m _ g3
 try dsimp only at b1 b2 b3
 refine⟨⟨a1,a2,a3⟩,by simp[rdD,jF,e1,e2,e3,aD],?_⟩;simp only[rE,cJ,Rows.uptoBulk,Rows.uptoBulkAll];omega
theorem ka2 (fuel:Nat):Rd enc w base sp held fuel 126 aE rF:=by
 intro d h;obtain⟨m,ds,hm,rfl,hf⟩:=pT (ts:=[9,34]) Tryz.underlying126 rfl h;obtain⟨d1,_,rfl,g1,hf⟩:=hf.cons;obtain⟨d2,_,rfl,g2,hf⟩:=hf.cons;obtain rfl:=hf.nil;obtain⟨a1,e1,b1⟩:=zh6 m _ g1;obtain⟨a2,e2,b2⟩:=j98 m _ g2
 try dsimp only at b1 b2
 refine⟨⟨a1,a2⟩,by simp[rdD,jF,e1,e2,aE],?_⟩;simp only[rF,cO,Rows.uptoBulk,Rows.uptoBulkAll];omega
def sW (x:List Int×Stx):List D:=.sl (nums x.1)::aA x.2
theorem jd5:∀l,ke2 l=l.map fun m=>D.str m.1::eU m.2
 |[]=>rfl
 |(s,l,x,m,y)::r=>by simp[ke2,jd5 r,eU]
theorem jd6:∀l,ke4 l=l.map fun m=>D.str m.1::sW m.2
 |[]=>rfl
 |(s,l,x)::r=>by simp[ke4,jd6 r,sW]
def fnq (x:FnE):Nat:=1+x.1.length+stq x.2.1+x.2.2.1.length+stq x.2.2.2
def abq (x:List Int×Stx):Nat:=1+x.1.length+stq x.2
theorem jd7:∀l:List (ByteArray×Stx),aT (fun m=>1+m.1.size+stq m.2) l=stq.goS l
 |[]=>rfl
 |(a,b)::r=>by simp only[aT,jd7 r,stq.goS]
theorem jd8:∀l:List (ByteArray×FnE),aT (fun m=>m.1.size+fnq m.2) l=stq.goF l
 |[]=>rfl
 |(a,b,c,d,e)::r=>by
  have:=jd8 r;show a.size+fnq (b,c,d,e)+aT (fun m=>m.1.size+fnq m.2) r=_;rw[this];simp only[fnq,stq.goF];omega
theorem jd9:∀l:List (ByteArray×List Int×Stx),aT (fun m=>m.1.size+abq m.2) l=stq.goG l
 |[]=>rfl
 |(a,b,c)::r=>by
  have:=jd9 r;show a.size+abq (b,c)+aT (fun m=>m.1.size+abq m.2) r=_;rw[this];simp only[abq,stq.goG];omega
theorem zh8 {fuel:Nat} (ih:∀m,m<fuel→Rd enc w base sp held m 65 aA stq):Rd enc w base sp held fuel 87 sW abq:=by
 intro d h;obtain⟨m,ds,hm,rfl,hf⟩:=pT (ts:=[85,65]) Tryz.underlying87 rfl h;obtain⟨d1,_,rfl,g1,hf⟩:=hf.cons;obtain⟨d2,_,rfl,g2,hf⟩:=hf.cons;obtain rfl:=hf.nil;obtain⟨a1,e1,b1⟩:=zh7 m _ g1;obtain⟨a2,e2,b2⟩:=ih m hm _ g2
 try dsimp only at b1 b2
 refine⟨(a1,a2),by simp[rdD,jF,e1,e2,sW],?_⟩;simp only[abq,Rows.uptoBulk,Rows.uptoBulkAll];omega
theorem ka3 {fuel:Nat} (ih:∀m,m<fuel→Rd enc w base sp held m 65 aA stq):Rd enc w base sp held fuel 89 eU fnq:=by
 intro d h;obtain⟨m,ds,hm,rfl,hf⟩:=pT (ts:=[85,65,87]) Tryz.underlying89 rfl h;obtain⟨d1,_,rfl,g1,hf⟩:=hf.cons;obtain⟨d2,_,rfl,g2,hf⟩:=hf.cons;obtain⟨d3,_,rfl,g3,hf⟩:=hf.cons;obtain rfl:=hf.nil;obtain⟨a1,e1,b1⟩:=zh7 m _ g1;obtain⟨a2,e2,b2⟩:=ih m hm _ g2;obtain⟨a3,e3,b3⟩:=zh8 (fun k hk=>ih k (by omega)) _ g3
 try dsimp only at b1 b2 b3
 refine⟨(a1,a2,a3.1,a3.2),by simp[rdD,jF,e1,e2,e3,eU,sW],?_⟩;simp only[fnq,abq,Rows.uptoBulk,Rows.uptoBulkAll]at *;omega
theorem zI7 {α:Type} {e:α→List D} {n:α→Nat} {t u:TypeId} {fs:Array Field} (hu:kd5.underlying t=some (.struct fs)) (hts:fs.toList.map (·.type)=[9,u]) {fuel:Nat} (ih:∀m,m<fuel→Rd enc w base sp held m u e n):Rd enc w base sp held fuel t (fun x:ByteArray×α=>.str x.1::e x.2) (fun x=>1+x.1.size+n x.2):=by
 intro d h;obtain⟨m,ds,hm,rfl,hf⟩:=pT hu hts h;obtain⟨d1,_,rfl,g1,hf⟩:=hf.cons;obtain⟨d2,_,rfl,g2,hf⟩:=hf.cons;obtain rfl:=hf.nil;obtain⟨a1,e1,b1⟩:=zh6 m _ g1;obtain⟨a2,e2,b2⟩:=ih m hm _ g2
 try dsimp only at b1 b2
 refine⟨(a1,a2),by simp[rdD,jF,e1,e2],?_⟩;simp only[Rows.uptoBulk,Rows.uptoBulkAll];omega
theorem je0:∀fuel:Nat,Rd enc w base sp held fuel 65 aA stq:=by
 intro fuel;induction fuel using kt4 with
 |ind fuel ih=>
 intro d h;obtain⟨m,ds,hm,rfl,hf⟩:=pT (ts:=[59,60,61,62,63]) Tryz.underlying65 rfl h;obtain⟨d1,_,rfl,g1,hf⟩:=hf.cons;obtain⟨d2,_,rfl,g2,hf⟩:=hf.cons;obtain⟨d3,_,rfl,g3,hf⟩:=hf.cons;obtain⟨d4,_,rfl,g4,hf⟩:=hf.cons;obtain⟨d5,_,rfl,g5,hf⟩:=hf.cons;obtain rfl:=hf.nil;obtain⟨a1,e1,b1⟩:=pU Tryz.underlying59 (fun k _=>ka1 Tryz.underlying133 rfl k) _ g1;obtain⟨a2,e2,b2⟩:=pU Tryz.underlying60 (fun k _=>ka2 k) _ g2;obtain⟨a3,e3,b3⟩:=pU Tryz.underlying61 (fun k hk=>zI7 Tryz.underlying140 rfl (fun j hj=>ih j (by omega))) _ g3;obtain⟨a4,e4,b4⟩:=pU Tryz.underlying62 (fun k hk=>zI7 Tryz.underlying161 rfl (fun j hj=>ka3 (fun i hi=>ih i (by omega)))) _ g4;obtain⟨a5,e5,b5⟩:=pU Tryz.underlying63 (fun k hk=>zI7 Tryz.underlying162 rfl (fun j hj=>zh8 (fun i hi=>ih i (by omega)))) _ g5;have c3:=jd7 a3;have c4:=jd8 a4;have c5:=jd9 a5;have f4:=mQ (f:=fun m:ByteArray×FnE=>m.1.size+fnq m.2) (g:=fun m=>1+m.1.size+fnq m.2) (fun a=>by omega) a4;have f5:=mQ (f:=fun m:ByteArray×List Int×Stx=>m.1.size+abq m.2) (g:=fun m=>1+m.1.size+abq m.2) (fun a=>by omega) a5
 try dsimp only at b1 b2 b3 b4 b5
 refine⟨.mk a1 a2 a3 a4 a5,by simp[rdD,jF,e1,e2,e3,e4,e5,aA,xY,jd5,jd6],?_⟩;simp only[stq,Rows.uptoBulk,Rows.uptoBulkAll];omega
end
def pl0:Pl:={ at_:=fun _=>none,X:=fun _=>False }
theorem ka4 (w:World):aW w pl0 []:=⟨by simp,by simp,by simp,by simp,fun b h=>h.elim,by simp⟩
theorem je1:Mut pl0 []=fun _=>False:=by
 funext b;apply propext;constructor
 ·rintro(⟨id,o,h1,_⟩|h)
  ·simp at h1
  ·exact h
 ·intro h;exact h.elim
theorem je2 {H:Type} {enc:TypeId×Value→H} {w:World} {sp:Nat→Bool} {held:Bool} {t:TypeId} (ht:t∈zh4) {v:Value} {d:DataW H} {ps:List MemPlace} {xs:List D}
  {fuel:Nat} (h:DataW.trod enc kd5 w 0 sp held fuel t v.cells.toList=some (d,ps)) (hx:rdD d=xs) (h1:xs.length≠1):bF w pl0 [] (.agg (xs.map .d)) v:=by
 have hr:=zQ5 jd1 fuel t _ d ps ht h;rw[hx]at hr;obtain⟨r1,r2,r3⟩:=hr;have key:∀cs:Array Value,v = .agg cs→bF w pl0 [] (.agg (xs.map .d)) v:=by
  rintro cs rfl;have r1':cs.size=kd5.cellsOf t:=by simpa[Value.cells]using r1
  have r3':∀(j:Nat) (x:D) (v:Value),xs[j]?=some x→cs[j]?=some v→cQ w (fun _=>False) x v:=fun j x v a b=>r3 j x v a (by simpa[Value.cells]using b);refine .agg (by simp;omega) (fun j l v hj hv=>?_) (fun v hv=>?_)
  ·rw[List.getElem?_map]at hj;obtain⟨x,hx,rfl⟩:=Option.map_eq_some_iff.1 hj;refine .d ?_;rw[je1];exact r3' j x v hx hv
  ·obtain⟨j,hj,hv⟩:=Array.mem_iff_getElem.1 hv;exact(r3' j (xs[j]'(by omega)) v (List.getElem?_eq_getElem _) (by rw[←hv];exact Array.getElem?_eq_getElem hj)).oneCell
 cases v with
 |agg cs=>exact key cs rfl
 |_=>exfalso;apply h1;rw[r2,←r1];rfl
theorem je3 {H:Type} {enc:TypeId×Value→H} {w:World} {sp:Nat→Bool} {held:Bool} {t:TypeId} (ht:t∈zh4) {v:Value} {d:DataW H} {ps:List MemPlace} {x:D}
  {fuel:Nat} (h:DataW.trod enc kd5 w 0 sp held fuel t v.cells.toList=some (d,ps)) (hx:rdD d=[x]) (ho:v.cells.toList=[v]):bF w pl0 [] (.one (.d x)) v:=by
 have hr:=zQ5 jd1 fuel t _ d ps ht h;rw[hx,ho]at hr;obtain⟨r1,r2,r3⟩:=hr;have r:=r3 0 x v rfl rfl;refine .one r.oneCell (.d ?_);rw[je1];exact r
theorem zh9 {H:Type} {enc:TypeId×Value→H} {P:Program} {w:World} {base:Nat} {sp:Nat→Bool} {held:Bool} {t:TypeId} {ts:List TypeId} {v:Value} {vs:List Value} {d:DataW H} {ds:List (DataW H)} {p p':List MemPlace}
  (h:DataW.Trod enc P w base sp held t v d p) (hs:DataW.TrodAll enc P w base sp held ts vs ds p'):DataW.TrodAll enc P w base sp held (t::ts) (v::vs) (d::ds) (p++p'):=⟨p,p',h,hs,rfl⟩
theorem ka5 {w w':World} {μ':Pl} {h':aB} (g:Go.Vt.Good w pl0 [] w' μ' h'):Below w.heap.size w w':=
 ⟨g.os,g.tape,g.output,g.size,fun b hb=>g.block b hb (by rintro⟨id,o,h1,_⟩;simp at h1)⟩
theorem ka6 {H:Type} {enc:TypeId×Value→H} {P:Program} {f:Func} {s:ChangeSpec} {apart fresh handsOn lU:Bool} {W W':World} {args:Array Value} {v:Value} {ds gs:List (DataW H)} {before pa pv:List MemPlace}
  (hW:DataW.Whole enc P f.params.toList s.vars apart W args.toList ds gs before) (hb:Below W.heap.size W W')
  (hres:∀(b:Nat) (sp:Nat→Bool) (hd:Bool),DataW.TrodAll enc P W' b sp hd f.resultTypes.toList (v.resultList f.resultTypes.size) (s.fn H (ds++gs)).results [])
  (hargs:∀sp:Nat→Bool,(∀p∈before,sp p.block=true)→DataW.TrodAll enc P W' 0 sp true f.params.toList args.toList (s.fn H (ds++gs)).args pa)
  (hvars:∀sp:Nat→Bool,(∀p∈before,sp p.block=true)→DataW.TrodVars enc P W' sp s.vars (s.fn H (ds++gs)).vars pv)
  (hps:before=pa++pv)
  (hok:∀(j:Nat) (t:TypeId) (r:Value),f.resultTypes[j]?=some t→(v.resultList f.resultTypes.size)[j]?=some r→Value.okWide P W' .any 0 t r) :
  s.post enc P f apart fresh handsOn lU W args v W':=by
 have hold:∀p∈before,(fun b=>decide (b<W.heap.size)) p.block=true:=fun p hp=>by simpa using hW.lt p hp
 have hlt:=hW.lt;refine⟨ds,gs,before,[],pa,pv,hW,hres _ _ _,hargs _ hold,hvars _ hold,World.keptBut_mono (fun p hp=>⟨hp,?_⟩) (hb.frame (·∈before)),fun _=>?_⟩
 ·rw[hps,List.mem_append]at hp;exact Or.inr hp
 ·obtain⟨_,_,_,_,_,hz,hn⟩:=hW;refine⟨hok,_,_,([]++pa)++pv,⟨[]++pa,pv,trodAll_append (hargs _ (fun _ _=>rfl)) (hres _ _ _),hvars _ (fun _ _=>rfl),rfl,?_,?_⟩,?_⟩
  ·intro b off hp;have hp':MemPlace.cell b off∈before:=by rw[hps];simpa using hp
   rw[hb.frozen (p:=⟨b,off,none⟩) (hlt _ hp')];exact hz b off hp'
  ·intro ha;have:=hn ha;rw[hps]at this;simpa using this
  ·intro p hp _;rw[hps];simpa using hp
end Go.Proofs.YtdabfkmhkoppcaaGreatDoor
