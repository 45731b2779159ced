import Derived.Test.YtdabfkmhkoppcaaGreatDoorVtD13
import Derived.Test.YtdabfkmhkoppcaaGreatDoorVtA1
import Derived.Lib.ItoaNum
import Derived.Lib.Repeat
import Derived.Lib.Join
import Derived.Test.YtdabfkmhkoppcaaGreatDoorVtW1
set_option linter.all false
set_option maxRecDepth 100000
open Int renaming le_trans→kz7
open List renaming length_cons→kr4,map_append→kF5,map_cons→kq1,map_nil→kq5,sum_cons→kK2
open Nat renaming add_mul→kA6,le_refl→ks0,reduceAdd→ks7,reducePow→kK9,zero_le→kt1
open Option renaming getD_none→kF7,getD_some→kB5
namespace Go.Vt.Tryz
open Go.Vt.Al
theorem zb1 (a b:ByteArray):(a++b).data=a.data++b.data:=by simp
theorem uJ (a b c:ByteArray):a++b++c=a++(b++c):=by
 apply ByteArray.ext;simp only[zb1,Array.append_assoc]
theorem zb2 (a:ByteArray):a++(⟨#[]⟩:ByteArray)=a:=by
 apply ByteArray.ext;simp only[zb1,Array.append_empty]
theorem ji1 (a:ByteArray):(⟨#[]⟩:ByteArray)++a=a:=by
 apply ByteArray.ext;simp only[zb1,Array.empty_append]
theorem bM (a b:ByteArray):(a++b).size=a.size+b.size:=by
 show(a++b).data.size=_;rw[zb1,Array.size_append];rfl
theorem uK (l:List UInt8):(⟨l.toArray⟩:ByteArray).size=l.length:=by
 show l.toArray.size=_;simp
def bZ:List ByteArray→ByteArray
 |[]=>⟨#[]⟩
 |a::l=>a++bZ l
theorem zN8:∀(l m:List ByteArray),bZ (l++m)=bZ l++bZ m
 |[],m=>by simp only[List.nil_append,bZ,ji1]
 |a::l,m=>by simp only[List.cons_append,bZ,zN8 l m,uJ]
theorem ke7 (a:ByteArray):bZ [a]=a:=by simp only[bZ,zb2]
theorem ji2 {α:Type} {f:α→ByteArray} {l:List α} {i:Nat} {a:α} (h:l[i]?=some a):bZ ((l.take (i+1)).map f)=bZ ((l.take i).map f)++f a:=by
 rw[List.take_add_one,h,kF5,zN8];simp only[Option.toList,kq1,kq5,ke7]
theorem ji3:∀l:List ByteArray,(bZ l).size=aK ByteArray.size l
 |[]=>rfl
 |a::l=>by rw[bZ,bM,ji3 l];rfl
theorem ke8 {α:Type} {f:α→ByteArray} (l:List α) (i:Nat):(bZ ((l.take i).map f)).size≤(bZ (l.map f)).size:=by
 have:bZ (l.map f)=bZ ((l.take i).map f)++bZ ((l.drop i).map f):=by rw[←zN8,←kF5,List.take_append_drop]
 rw[this,bM];omega
def inr (n:Int):Prop:=-9223372036854775808≤n∧n≤9223372036854775807
def eU:Ty→Prop
 |.mk _ n l=>inr n∧go l
 where
 go:List Ty→Prop
  |[]=>True
  |t::r=>eU t∧go r
theorem zk8:∀l:List Ty,eU.go l↔∀t∈l,eU t
 |[]=>by simp[eU.go]
 |t::r=>by simp[eU.go,zk8 r]
def lG (fr:List Int):Nat→Int
 |0=>1
 |i+1=>if (i:Int)∈fr then lG fr i else IntKind.i64.wrap (lG fr i+1)
def mkT (fr:List Int):Ty→Ty
 |.mk k n l=>if k=6∧n∉fr then .mk 7 (lG fr n.toNat) []else .mk k n (go l)
 where
 go:List Ty→List Ty
  |[]=>[]
  |t::r=>mkT fr t::go r
theorem ji4 (fr:List Int):∀l,mkT.go fr l=l.map (mkT fr)
 |[]=>rfl
 |t::r=>by simp only[mkT.go,ji4 fr r,kq1]
def zN9:ByteArray:=⟨#[105,110,116]⟩
def zO0:ByteArray:=⟨#[98,111,111,108]⟩
def zO1:ByteArray:=⟨#[117,110,105,116]⟩
def sQm:ByteArray:=⟨#[63]⟩
def zO2:ByteArray:=⟨#[35]⟩
def sLp:ByteArray:=⟨#[40]⟩
def sRp:ByteArray:=⟨#[41]⟩
def zk9:ByteArray:=⟨#[32,45,62,32]⟩
def zl0:ByteArray:=⟨#[32,42,32]⟩
def zl1:ByteArray:=⟨#[39]⟩
def ke9:ByteArray:=⟨#[39,63]⟩
def oL (n:Int):ByteArray:=⟨(Lib.itoa n).toArray⟩
def wY (n:Int):ByteArray:=if n<0 then ke9 else if 26≤n then zl1++⟨#[(97+n % 26).toNat.toUInt8]⟩++oL (n / 26)else zl1++⟨#[(97+n % 26).toNat.toUInt8]⟩
def eF:Ty→Int|.mk k _ _=>k
def wiB (a:Ty) (c:Bool) (s:ByteArray):ByteArray:=if c=true∧a.kids.length=2 then sLp++s++sRp else s
def kA (k n:Int):Option ByteArray:=
 if k=1 then some zN9 else if k=2 then some zO0 else if k=3 then some zO1 else if k=6 then some (zO2++oL n)else if k=7 then some (sQm++oL n)else if k=8 then some (wY n)else none
def oM (k:Int) (a b:Ty) (s u:ByteArray):ByteArray:=
 if k=4 then wiB a (decide (eF a=4)) s++zk9++u else if k=5 then wiB a (decide (eF a=4)) s++zl0++wiB b (decide (eF b=4)||decide (eF b=5)) u else sQm
def tyB:Ty→ByteArray
 |.mk k n [a,b]=>(kA k n).getD (oM k a b (tyB a) (tyB b))
 |.mk k n _=>(kA k n).getD sQm
 termination_by t=>SizeOf.sizeOf t
 decreasing_by
 all_goals simp_wf;omega
theorem zO3 (k n:Int) (a b:Ty):tyB (.mk k n [a,b])=(kA k n).getD (oM k a b (tyB a) (tyB b)):=by rw[tyB]
theorem zO4 (k n:Int) {l:List Ty} (h:l.length≠2):tyB (.mk k n l)=(kA k n).getD sQm:=by
 rw[tyB];rintro a b rfl;exact h rfl
theorem zO5:∀(k u:Nat),u<10 ^ (k+1)→Lib.nDigits u≤k+1
 |0,u,h=>by rw[Lib.nDigits_small (by simpa using h)];omega
 |k+1,u,h=>by
  by_cases e:u<10
  ·rw[Lib.nDigits_small e];omega
  ·rw[Lib.nDigits_big e];have:=zO5 k (u / 10) (by rw[Nat.pow_succ]at h;omega);omega
theorem zl2 {n:Int} (h:inr n):(oL n).size≤20:=by
 unfold oL Lib.itoa;rw[uK];obtain⟨h1,h2⟩:=h;split
 ·rw[kr4,Lib.decDigits_length];have:=zO5 18 n.natAbs (by simp only[kK9,ks7];omega);omega
 ·rw[Lib.decDigits_length];have:=zO5 18 n.toNat (by simp only[kK9,ks7];omega);omega
theorem kf0 {n:Int} (h:inr n):(wY n).size≤22:=by
 unfold wY;split
 ·exact by decide
 split
 ·rw[bM,bM];have:=zl2 (n:=n / 26) ⟨by have:=h.1;omega,by have:=h.2;omega⟩;have e1:zl1.size=1:=rfl;have e2:∀c:UInt8,(⟨#[c]⟩:ByteArray).size=1:=fun _=>rfl;rw[e1,e2];omega
 ·rw[bM];have e1:zl1.size=1:=rfl;have e2:∀c:UInt8,(⟨#[c]⟩:ByteArray).size=1:=fun _=>rfl;rw[e1,e2];omega
theorem ji5 {k n:Int} (h:inr n) {s:ByteArray} (e:kA k n=some s):s.size≤22:=by
 have h1:=zl2 h;have h2:=kf0 h;have e1:zN9.size=3:=rfl;have e2:zO0.size=4:=rfl;have e3:zO1.size=4:=rfl;have e4:zO2.size=1:=rfl;have e5:sQm.size=1:=rfl;unfold kA at e
 repeat' split at e
 all_goals first|(cases e;done)|(cases e;simp only[bM];omega)|(cases e;omega)
theorem zl3 (a:Ty) (c:Bool) (s:ByteArray):s.size≤(wiB a c s).size∧(wiB a c s).size≤s.size+2:=by
 have e1:sLp.size=1:=rfl;have e2:sRp.size=1:=rfl;unfold wiB;split
 ·rw[bM,bM];omega
 ·omega
theorem kf1 (k:Int) (a b:Ty) (s u:ByteArray):(oM k a b s u).size≤s.size+u.size+8:=by
 have e1:zk9.size=4:=rfl;have e2:zl0.size=3:=rfl;have e5:sQm.size=1:=rfl;have w1:=zl3 a (decide (eF a=4)) s;have w2:=zl3 b (decide (eF b=4)||decide (eF b=5)) u;unfold oM;split
 ·rw[bM,bM];omega
 split
 ·rw[bM,bM];omega
 ·omega
theorem kf2:∀t:Ty,eU t→(tyB t).size≤40*tyn t:=by
 intro t;induction t using Ty.ind with
 |h k n l ih=>
 intro ho;simp only[eU,zk8]at ho;simp only[tyn,mK];have e5:sQm.size=1:=rfl;by_cases hl:l.length=2
 ·match l,hl with
  |[a,b],_=>
   rw[zO3];have h1:=ih a (by simp) (ho.2 a (by simp));have h2:=ih b (by simp) (ho.2 b (by simp));simp only[aK];cases e:kA k n with
   |some s=>
    have:=ji5 ho.1 e;simp only[kB5];omega
   |none=>
    have:=kf1 k a b (tyB a) (tyB b);simp only[kF7];omega
 ·rw[zO4 k n hl];cases e:kA k n with
  |some s=>
   have:=ji5 ho.1 e;simp only[kB5];omega
  |none=>
   simp only[kF7];omega
theorem kf3 (n:Int):inr (IntKind.i64.wrap n):=by
 unfold inr IntKind.wrap;simp only[IntKind.signed,IntKind.bits,Bool.true_and,Nat.reduceSub,Int.reducePow];constructor<;>split<;>rename_i h<;>first|(have h2:=of_decide_eq_true h;omega)|(have h2:¬(n % 18446744073709551616≥9223372036854775808):=fun e=>h (decide_eq_true e);omega)
theorem ji6 (fr:List Int):∀n,inr (lG fr n)
 |0=>by unfold inr lG;omega
 |i+1=>by
  rw[lG];split
  ·exact ji6 fr i
  ·exact kf3 _
theorem ji7 (fr:List Int):∀t:Ty,(eU t→eU (mkT fr t))∧tyn (mkT fr t)≤tyn t:=by
 intro t;induction t using Ty.ind with
 |h k n l ih=>
 rw[mkT];split
 ·refine⟨fun _=>⟨ji6 _ _,trivial⟩,?_⟩;simp only[tyn,tyn.go];omega
 ·have g:∀l:List Ty,(∀t∈l,(eU t→eU (mkT fr t))∧tyn (mkT fr t)≤tyn t)→(eU.go l→eU.go (mkT.go fr l))∧tyn.go (mkT.go fr l)≤tyn.go l:=by
   intro l;induction l with
   |nil=>intro _;exact⟨id,ks0 _⟩
   |cons t r ih2=>
    intro hi;have h1:=hi t (by simp);have h2:=ih2 fun t ht=>hi t (by simp[ht]);simp only[mkT.go,eU.go,tyn.go];exact⟨fun h=>⟨h1.1 h.1,h2.1 h.2⟩,by omega⟩
  have:=g l ih;simp only[eU,tyn];exact⟨fun h=>⟨h.1,this.1 h.2⟩,by omega⟩
theorem uL (fr:List Int) (t:Ty) (h:eU t):(tyB (mkT fr t)).size≤40*tyn t:=by
 have h1:=ji7 fr t;have h2:=kf2 _ (h1.1 h);omega
def lnB (d:Nat) (s:ByteArray):ByteArray:=⟨(Lib.repeatL [32,32] d).toArray⟩++s++⟨#[10]⟩
theorem mQ (d:Nat) (s:ByteArray):(lnB d s).size=2*d+s.size+1:=by
 unfold lnB;rw[bM,bM,uK,Lib.repeatL_length];show d*2+s.size+1=_;omega
def ji8:ByteArray:=⟨#[116,121,112,101,32]⟩
def ji9:ByteArray:=⟨#[100,97,116,97,32]⟩
def sEq:ByteArray:=⟨#[32,61,32]⟩
def zl4:ByteArray:=⟨#[58,32]⟩
def sOf:ByteArray:=⟨#[32,111,102,32]⟩
def zb3:ByteArray:=⟨#[32,124,32]⟩
def jj0:ByteArray:=⟨#[118,97,108,32]⟩
def zO6:ByteArray:=⟨#[115,116,114,117,99,116,117,114,101,32]⟩
def zO7:ByteArray:=⟨#[102,117,110,99,116,111,114,32]⟩
def zO8:ByteArray:=⟨#[115,105,103,110,97,116,117,114,101,32]⟩
def zO9:ByteArray:=⟨#[102,114,111,109]⟩
def sTo:ByteArray:=⟨#[116,111]⟩
def ctB (fr:List Int) (c:Ct):ByteArray:=match c.args with
 |[]=>c.name
 |t::_=>c.name++(sOf++tyB (mkT fr t))
def pE (l:List ByteArray):ByteArray:=⟨(Lib.join (l.map (·.data.toList)) zb3.data.toList).toArray⟩
def zb4 (fr:List Int) (m:Tym):ByteArray:=
 if m.cts=[]then ji8++m.name++sEq++tyB (mkT fr m.t)else ji9++m.name++sEq++tyB (mkT fr m.t)++zl4++pE (m.cts.map (ctB fr))
def jK (fr:List Int) (d:Nat) (m:Tym):ByteArray:=lnB d (zb4 fr m)
def kO (fr:List Int) (d:Nat) (m:Vam):ByteArray:=lnB d (jj0++m.name++zl4++tyB (mkT fr m.s.t))
def stB (fr:List Int):Stx→Nat→ByteArray
 |.mk ts vs ss fs gs,d=>bZ (ts.map (jK fr d))++bZ (vs.map (kO fr d))++goS ss d++goF fs d++goG gs d
 where
 goS:List (ByteArray×Stx)→Nat→ByteArray
  |[],_=>⟨#[]⟩
  |(s,x)::l,d=>lnB d (zO6++s)++stB fr x (d+1)++goS l d
 goF:List (ByteArray×List Int×Stx×List Int×Stx)→Nat→ByteArray
  |[],_=>⟨#[]⟩
  |(s,_,x,_,y)::l,d=>lnB d (zO7++s)++lnB (d+1) zO9++stB fr x (d+2)++lnB (d+1) sTo++stB fr y (d+2)++goF l d
 goG:List (ByteArray×List Int×Stx)→Nat→ByteArray
  |[],_=>⟨#[]⟩
  |(s,_,y)::l,d=>lnB d (zO8++s)++stB fr y (d+1)++goG l d
def lZ (fr:List Int) (d:Nat) (m:ByteArray×Stx):ByteArray:=lnB d (zO6++m.1)++stB fr m.2 (d+1)
def mA (fr:List Int) (d:Nat) (m:ByteArray×FnE):ByteArray:=lnB d (zO7++m.1)++lnB (d+1) zO9++stB fr m.2.2.1 (d+2)++lnB (d+1) sTo++stB fr m.2.2.2.2 (d+2)
def mR (fr:List Int) (d:Nat) (m:iN):ByteArray:=lnB d (zO8++m.1)++stB fr m.2.2 (d+1)
theorem zl5 (fr:List Int) (d:Nat):∀l,stB.goS fr l d=bZ (l.map (lZ fr d))
 |[]=>rfl
 |(s,x)::l=>by rw[stB.goS,zl5 fr d l];rfl
theorem zl6 (fr:List Int) (d:Nat):∀l,stB.goF fr l d=bZ (l.map (mA fr d))
 |[]=>rfl
 |(s,p,x,q,y)::l=>by rw[stB.goF,zl6 fr d l];rfl
theorem zl7 (fr:List Int) (d:Nat):∀l,stB.goG fr l d=bZ (l.map (mR fr d))
 |[]=>rfl
 |(s,q,y)::l=>by rw[stB.goG,zl7 fr d l];rfl
theorem kf4 (fr:List Int) (x:Stx) (d:Nat):stB fr x d=bZ (x.types.map (jK fr d))++bZ (x.vals.map (kO fr d))++bZ (x.subs.map (lZ fr d))++bZ (x.funs.map (mA fr d))++bZ (x.sigs.map (mR fr d)):=by
 obtain⟨ts,vs,ss,fs,gs⟩:=x;rw[stB,zl5,zl6,zl7];rfl
def tyq:Ty→Nat
 |.mk _ n l=>(if -9223372036854775808≤n∧n≤9223372036854775807 then 1 else 1000000000000)+go l
 where
 go:List Ty→Nat
  |[]=>0
  |t::r=>tyq t+go r
theorem zl8:∀l:List Ty,tyq.go l=aK tyq l
 |[]=>rfl
 |t::r=>by simp only[tyq.go,aK,zl8 r]
theorem nN:∀t:Ty,(tyq t<1000000000000→eU t)∧tyn t≤tyq t:=by
 intro t;induction t using Ty.ind with
 |h k n l ih=>
 have g:∀l:List Ty,(∀t∈l,(tyq t<1000000000000→eU t)∧tyn t≤tyq t)→(tyq.go l<1000000000000→eU.go l)∧tyn.go l≤tyq.go l:=by
  intro l;induction l with
  |nil=>intro _;exact⟨fun _=>trivial,ks0 _⟩
  |cons t r ih2=>
   intro hi;have h1:=hi t (by simp);have h2:=ih2 fun t ht=>hi t (by simp[ht]);simp only[tyq.go,eU.go,tyn.go];exact⟨fun h=>⟨h1.1 (by omega),h2.1 (by omega)⟩,by omega⟩
 have h:=g l ih;simp only[tyq,eU,tyn];split
 ·rename_i hn;exact⟨fun e=>⟨hn,h.1 (by omega)⟩,by omega⟩
 ·exact⟨fun e=>by omega,by omega⟩
theorem okq {t:Ty} (h:tyq t<1000000000000):eU t:=(nN t).1 h
def wCt (c:Ct):Nat:=1+c.name.size+aK tyq c.args
def iF (m:Tym):Nat:=1+m.name.size+tyq m.t+aK wCt m.cts
def iT (m:Vam):Nat:=1+m.name.size+tyq m.s.t
def wSt:Stx→Nat
 |.mk ts vs ss fs gs=>1+aK iF ts+aK iT vs+goS ss+goF fs+goG gs
 where
 goS:List (ByteArray×Stx)→Nat
  |[]=>0
  |(s,x)::l=>1+s.size+wSt x+goS l
 goF:List (ByteArray×List Int×Stx×List Int×Stx)→Nat
  |[]=>0
  |(s,_,x,_,y)::l=>1+s.size+wSt x+wSt y+goF l
 goG:List (ByteArray×List Int×Stx)→Nat
  |[]=>0
  |(s,_,y)::l=>1+s.size+wSt y+goG l
theorem kf5 {fr:List Int} {c:Ct} (h:wCt c<1000000000000):(ctB fr c).size≤40*wCt c:=by
 have e1:sOf.size=4:=rfl;unfold ctB wCt;split
 ·rename_i e;rw[e];simp only[aK];omega
 ·rename_i t r e;unfold wCt at h;rw[e]at h;simp only[aK]at h;have:=uL fr t (okq (by omega));have h2:=(nN t).2;rw[e,bM,bM];simp only[aK];omega
theorem kf6:∀l:List ByteArray,(pE l).size≤aK (fun s=>s.size+3) l
 |[]=>by
  unfold pE;rw[uK,kq5,Lib.join_nil];exact kt1 _
 |a::l=>by
  unfold pE;rw[uK,kq1,Lib.join_length];have g:∀l:List ByteArray,3*l.length+Lib.lens (l.map (·.data.toList))=aK (fun s=>s.size+3) l:=by
   intro l;induction l with
   |nil=>rfl
   |cons b l ih=>
    have e:Lib.lens ((b::l).map (·.data.toList))=b.size+Lib.lens (l.map (·.data.toList)):=by
     simp only[Lib.lens,kq1,kK2];rfl
    simp only[aK,kr4];omega
  have e:Lib.lens (a.data.toList::l.map (·.data.toList))=a.size+Lib.lens (l.map (·.data.toList)):=by
   simp only[Lib.lens,kq1,kK2];rfl
  have e2:zb3.data.toList.length=3:=rfl;have:=g l;simp only[aK,List.length_map];rw[e,e2];omega
theorem kf7 {fr:List Int} {m:Tym} (h:iF m<1000000000000):(zb4 fr m).size≤43*iF m:=by
 have e1:ji8.size=5:=rfl;have e2:ji9.size=5:=rfl;have e3:sEq.size=3:=rfl;have e4:zl4.size=2:=rfl;unfold iF at h;have h1:=uL fr m.t (okq (by omega));have h2:=(nN m.t).2;unfold zb4 iF;split
 ·simp only[bM];omega
 ·have g:∀l:List Ct,aK wCt l<1000000000000→aK (fun s:ByteArray=>s.size+3) (l.map (ctB fr))≤43*aK wCt l:=by
   intro l;induction l with
   |nil=>intro _;exact kt1 _
   |cons c l ih=>
    intro hc;simp only[aK]at hc;have h1:=kf5 (fr:=fr) (c:=c) (by omega);have h2:=ih (by omega);have h3:1≤wCt c:=by unfold wCt;omega
    simp only[kq1,aK];omega
  have h4:=g m.cts (by omega);have h3:=kf6 (m.cts.map (ctB fr));simp only[bM];omega
theorem zb5 {a w C:Nat} (hw:1≤w) (h:a+43≤C):a+43*w≤w*C:=by
 obtain⟨v,rfl⟩:∃v,w=v+1:=⟨w-1,by omega⟩;have:v*43≤v*C:=Nat.mul_le_mul_left v (by omega);rw[kA6];omega
theorem jj1 {α:Type} {f g:α→Nat} {C:Nat}:∀l:List α,(∀a∈l,f a≤g a*C)→aK f l≤aK g l*C
 |[],_=>by simp[aK]
 |a::l,h=>by
  have h1:=h a (by simp);have h2:=jj1 l fun b hb=>h b (by simp[hb]);simp only[aK,kA6];omega
theorem jj2 {α:Type} {f:α→ByteArray} {g:α→Nat} {C:Nat} (l:List α) (h:∀a∈l,(f a).size≤g a*C):(bZ (l.map f)).size≤aK g l*C:=by
 rw[ji3];have e:∀l:List α,aK ByteArray.size (l.map f)=aK (fun a=>(f a).size) l:=by
  intro l;induction l with
  |nil=>rfl
  |cons a l ih=>simp only[kq1,aK,ih]
 rw[e];exact jj1 l h
theorem kf8 (fr:List Int) (D:Nat):∀s:Stx,wSt s<1000000000000→∀d,d+2*wSt s≤D→(stB fr s d).size≤wSt s*(8*D+300):=by
 intro s;induction s using Stx.ind with
 |h ts vs ss fs gs i1 i2 i3=>
 intro ho d hd;simp only[wSt]at hd ho ⊢;obtain⟨C,hC⟩:∃C,C=8*D+300:=⟨_,rfl⟩;rw[←hC]at i1 i2 i3 ⊢;have c1:(bZ (ts.map (jK fr d))).size≤aK iF ts*C:=jj2 ts fun m hm=>by
  have h0:=dB (f:=iF) hm;have h1:=kf7 (fr:=fr) (m:=m) (by omega);have h2:=zb5 (a:=2*d+1) (w:=iF m) (C:=C) (by unfold iF;omega) (by omega);unfold jK;rw[mQ];omega
 have c2:(bZ (vs.map (kO fr d))).size≤aK iT vs*C:=jj2 vs fun m hm=>by
  have h0:=dB (f:=iT) hm;have hw:iT m=1+m.name.size+tyq m.s.t:=rfl;have h3:=(nN m.s.t).2;have h1:=uL fr m.s.t (okq (by omega));have h2:=zb5 (a:=2*d+7) (w:=iT m) (C:=C) (by unfold iT;omega) (by omega);have e1:jj0.size=4:=rfl;have e2:zl4.size=2:=rfl;unfold kO;rw[mQ,bM,bM,bM];unfold iT at h2 ⊢;omega
 have c3:(stB.goS fr ss d).size≤wSt.goS ss*C:=by
  have hd1:d+2*wSt.goS ss+2≤D:=by omega
  have ho1:wSt.goS ss<1000000000000:=by omega
  clear hd ho c1 c2;induction ss with
  |nil=>simp[stB.goS,wSt.goS];rfl
  |cons x l ih=>
   obtain⟨s,x⟩:=x;simp only[wSt.goS]at hd1 ho1 ⊢;have h1:=i1 (s,x) (by simp) (by simp only;omega) (d+1) (by simp only;omega);have h2:=ih (fun y hy=>i1 y (by simp[hy])) (by omega) (by omega);have h3:=zb5 (a:=2*d+11) (w:=1+s.size) (C:=C) (by omega) (by omega);have e1:zO6.size=10:=rfl;rw[stB.goS,bM,bM,mQ,bM];simp only[kA6]at h3 ⊢;simp only at h1;omega
 have c4:(stB.goF fr fs d).size≤wSt.goF fs*C:=by
  have hd1:d+2*wSt.goF fs+2≤D:=by omega
  have ho1:wSt.goF fs<1000000000000:=by omega
  clear hd ho c1 c2 c3;induction fs with
  |nil=>simp[stB.goF,wSt.goF];rfl
  |cons x l ih=>
   obtain⟨s,p,x,q,y⟩:=x;simp only[wSt.goF]at hd1 ho1 ⊢;have i0:=i2 (s,p,x,q,y) (by simp);have h1:=i0.1 (by simp only;omega) (d+2) (by simp only;omega);have h1':=i0.2 (by simp only;omega) (d+2) (by simp only;omega);have h2:=ih (fun y hy=>i2 y (by simp[hy])) (by omega) (by omega);have h3:=zb5 (a:=6*d+30) (w:=1+s.size) (C:=C) (by omega) (by omega);have e1:zO7.size=8:=rfl;have e2:zO9.size=4:=rfl;have e3:sTo.size=2:=rfl;rw[stB.goF];simp only[bM,mQ];simp only[kA6]at h3 ⊢;simp only at h1 h1';omega
 have c5:(stB.goG fr gs d).size≤wSt.goG gs*C:=by
  have hd1:d+2*wSt.goG gs+2≤D:=by omega
  have ho1:wSt.goG gs<1000000000000:=by omega
  clear hd ho c1 c2 c3 c4;induction gs with
  |nil=>simp[stB.goG,wSt.goG];rfl
  |cons x l ih=>
   obtain⟨s,q,y⟩:=x;simp only[wSt.goG]at hd1 ho1 ⊢;have h1:=i3 (s,q,y) (by simp) (by simp only;omega) (d+1) (by simp only;omega);have h2:=ih (fun y hy=>i3 y (by simp[hy])) (by omega) (by omega);have h3:=zb5 (a:=2*d+11) (w:=1+s.size) (C:=C) (by omega) (by omega);have e1:zO8.size=10:=rfl;rw[stB.goG,bM,bM,mQ,bM];simp only[kA6]at h3 ⊢;simp only at h1;omega
 rw[stB];simp only[bM,kA6];omega
def nO (m:ByteArray×Stx):Nat:=1+m.1.size+wSt m.2
def nP (m:ByteArray×FnE):Nat:=1+m.1.size+wSt m.2.2.1+wSt m.2.2.2.2
def nQ (m:iN):Nat:=1+m.1.size+wSt m.2.2
theorem zl9:∀l:List (ByteArray×Stx),wSt.goS l=aK nO l
 |[]=>rfl
 |(a,b)::r=>by simp only[wSt.goS,aK,zl9 r,nO]
theorem zm0:∀l:List (ByteArray×FnE),wSt.goF l=aK nP l
 |[]=>rfl
 |(a,b,c,d,e)::r=>by simp only[wSt.goF,aK,zm0 r,nP]
theorem zm1:∀l:List iN,wSt.goG l=aK nQ l
 |[]=>rfl
 |(a,b,c)::r=>by simp only[wSt.goG,aK,zm1 r,nQ]
theorem kf9 (lt:ByteArray→ByteArray→Bool):∀s:Stx,wSt (bH lt s)=wSt s:=by
 intro s;induction s using Stx.ind with
 |h ts vs ss fs gs i1 i2 i3=>
 simp only[bH,wSt,zl9,zm0,zm1,ja9,sB,sC,sD,zJ2];have e1:aK (fun a:ByteArray×Stx=>nO (a.1,bH lt a.2)) ss=aK nO ss:=uE fun a ha=>by simp only[nO,i1 a ha]
 have e2:aK (fun a:ByteArray×FnE=>nP (a.1,a.2.1,bH lt a.2.2.1,a.2.2.2.1,bH lt a.2.2.2.2)) fs=aK nP fs:=uE fun a ha=>by simp only[nP,(i2 a ha).1,(i2 a ha).2]
 have e3:aK (fun a:iN=>nQ (a.1,a.2.1,bH lt a.2.2)) gs=aK nQ gs:=uE fun a ha=>by simp only[nQ,i3 a ha]
 rw[e1,e2,e3]
def Ir (w:WS):Prop:=0≤w.next∧∀k∈w.nums,inr k
theorem Ir.enter {w:WS} (h:Ir w) (n:Nat):Ir (aQ n w):=⟨h.1,fun k hk=>by
 rcases List.mem_append.1 hk with h'|h'
 ·exact h.2 k h'
 ·rw[List.eq_of_mem_replicate h'];unfold inr;omega⟩
theorem Ir.leave {w:WS} (h:Ir w) (n:Nat):Ir (dO n w):=⟨h.1,fun k hk=>h.2 k (List.mem_of_mem_take hk)⟩
section
variable {tk:List Int} {A:List Int}
theorem kg0 (n:Int) (w:WS) (h:Ir w) (hb:(cK tk id A n w).2.next≤1000000000000000):(inr n→inr (cK tk id A n w).1)∧Ir (cK tk id A n w).2:=by
 have hk:=ja0 tk w.next;unfold cK at hb ⊢;cases e:cC A n with
 |some i=>
  simp only[e]at hb ⊢;by_cases hneg:w.nums.getD i 0<0
  ·rw[if_pos hneg]at hb ⊢;simp only at hb ⊢;have h0:=h.1;have hi:inr (dG tk w.next):=by unfold inr;omega
   refine⟨fun _=>hi,by show 0≤dG tk w.next+1;omega,fun k hk=>?_⟩;rcases List.mem_or_eq_of_mem_set hk with h'|h'
   ·exact h.2 k h'
   ·rw[h'];exact hi
  ·rw[if_neg hneg];refine⟨fun _=>?_,h⟩;show inr (w.nums.getD i 0);rw[List.getD_eq_getElem?_getD];cases e:w.nums[i]? with
   |some k=>exact h.2 k (List.mem_of_getElem? e)
   |none=>unfold inr;simp
 |none=>exact⟨fun hn=>hn,h.1,h.2⟩
theorem qU {α β:Type} {F:α→WS→β×WS} {f:α→Nat} {g:β→Nat} {c:α→Nat} {k:Nat}:∀(l:List α),(∀a∈l,∀w,w.nums.length=k→Bh w (F a w).2 (c a))→
  (∀a∈l,∀w,w.nums.length=k→Ir w→(F a w).2.next≤1000000000000000→g (F a w).1≤f a∧Ir (F a w).2)→
  ∀w,w.nums.length=k→Ir w→(aX F l w).2.next≤1000000000000000→aK g (aX F l w).1≤aK f l∧Ir (aX F l w).2
 |[],_,_,w,_,h,_=>⟨ks0 _,h⟩
 |a::l,hb,hf,w,hw,h,hn=>by
  have b1:=hb a (by simp) w hw;have hw1:=b1.1.trans hw;have b2:=jQ (f:=F) (c:=c) l (fun b hm=>hb b (by simp[hm])) _ hw1;simp only[aX]at hn ⊢;have h1:=hf a (by simp) w hw h (kz7 b2.2.1 hn);have h2:=qU (f:=f) (g:=g) (c:=c) l (fun b hm=>hb b (by simp[hm])) (fun b hm=>hf b (by simp[hm])) _ hw1 h1.2 hn;refine⟨?_,h2.2⟩;have:=h1.1;have:=h2.1;simp only[aK];omega
theorem zP0 {k:Nat}:∀(t:Ty) (w:WS),w.nums.length=k→Ir w→(tyF tk id A t w).2.next≤1000000000000000→tyq (tyF tk id A t w).1≤tyq t∧Ir (tyF tk id A t w).2:=by
 intro t;induction t using Ty.ind with
 |h kd n l ih=>
 intro w hw h hb;simp only[tyF,tyq,lE,zl8]at hb ⊢;have hL:=fun w=>zJ0 (tk:=tk) (sb:=id) (A:=A) l w;have hM:=fun w (hw:w.nums.length=k)=>qU (F:=tyF tk id A) (f:=tyq) (g:=tyq) (c:=tyn) (k:=k) l (fun t _ w _=>qM t w) (fun t ht w hw h hb=>ih t ht w hw h hb) w hw;by_cases hk:kd=gN
 ·simp only[if_pos hk]at hb ⊢;have hs:=zI8 (tk:=tk) (sb:=id) (A:=A) n w;have h1:=kg0 n w h (kz7 (hL _).2.1 hb);have h2:=hM _ (hs.1.trans hw) h1.2 hb;refine⟨?_,h2.2⟩;have h3:=h2.1;have h4:(if -9223372036854775808≤(cK tk id A n w).1∧(cK tk id A n w).1≤9223372036854775807 then 1 else 1000000000000)≤if -9223372036854775808≤n∧n≤9223372036854775807 then 1 else 1000000000000:=by
   by_cases e:inr n
   ·have:=h1.1 e;unfold inr at e this;rw[if_pos e,if_pos this];exact ks0 _
   ·unfold inr at e;rw[if_neg e];split<;>omega
  omega
 ·simp only[if_neg hk]at hb ⊢;have h2:=hM _ hw h hb;exact⟨by have:=h2.1;omega,h2.2⟩
theorem kg1 {k:Nat} (c:Ct) (w:WS) (hw:w.nums.length=k) (h:Ir w) (hb:(ctF tk id A c w).2.next≤1000000000000000):wCt (ctF tk id A c w).1≤wCt c∧Ir (ctF tk id A c w).2:=by
 simp only[ctF,lE,wCt]at hb ⊢;have:=qU (F:=tyF tk id A) (f:=tyq) (g:=tyq) (c:=tyn) (k:=k) c.args (fun t _ w _=>qM t w) (fun t _ w hw h hb=>zP0 t w hw h hb) w hw h hb;exact⟨by have:=this.1;omega,this.2⟩
theorem kg2 {k:Nat} (m:Tym) (w:WS) (hw:w.nums.length=k) (h:Ir w) (hb:(cR tk id A m w).2.next≤1000000000000000):iF (cR tk id A m w).1≤iF m∧Ir (cR tk id A m w).2:=by
 simp only[cR,iF]at hb ⊢;have b1:=qM (tk:=tk) (sb:=id) (A:=A) m.t w;have b2:=mP (f:=ctF tk id A) (c:=ctn) m.cts (fun c _ w=>zi0 c w) (tyF tk id A m.t w).2;have h1:=zP0 (k:=k) m.t w hw h (kz7 b2.2.1 hb);have h2:=qU (F:=ctF tk id A) (f:=wCt) (g:=wCt) (c:=ctn) (k:=k) m.cts (fun c _ w _=>zi0 c w) (fun c _ w hw h hb=>kg1 c w hw h hb) _ (b1.1.trans hw) h1.2 hb;exact⟨by have:=h1.1;have:=h2.1;omega,h2.2⟩
theorem kg3 {k:Nat} (m:Vam) (w:WS) (hw:w.nums.length=k) (h:Ir w) (hb:(dK tk id A m w).2.next≤1000000000000000):iT (dK tk id A m w).1≤iT m∧Ir (dK tk id A m w).2:=by
 simp only[dK,iT]at hb ⊢;have h1:=zP0 (k:=k) m.s.t w hw h hb;exact⟨by have:=h1.1;omega,h1.2⟩
end
theorem kg4 {tk:List Int}:∀(s:Stx) (A:List Int) (w:WS),w.nums.length=A.length→Ir w→(aS tk id A s w).2.next≤1000000000000000→wSt (aS tk id A s w).1≤wSt s∧Ir (aS tk id A s w).2:=by
 intro s;induction s using Stx.ind with
 |h ts vs ss fs gs i1 i2 i3=>
 intro A w hw h hb;rw[sI]at hb ⊢;simp only[wSt,zl9,zm0,zm1]at hb ⊢;have b1:=mP (f:=cR tk id A) (c:=dC) ts (fun m _ w=>wJ m w) w;have c1:=qU (F:=cR tk id A) (f:=iF) (g:=iF) (c:=dC) (k:=A.length) ts (fun m _ w _=>wJ m w) (fun m _ w hw h hb=>kg2 m w hw h hb) w hw h;have hw1:=b1.1.trans hw;generalize hM1:aX (cR tk id A) ts w=M1 at b1 c1 hw1 hb ⊢;have b2:=mP (f:=dK tk id A) (c:=dJ) vs (fun m _ w=>wK m w) M1.2;have c2:=qU (F:=dK tk id A) (f:=iT) (g:=iT) (c:=dJ) (k:=A.length) vs (fun m _ w _=>wK m w) (fun m _ w hw h hb=>kg3 m w hw h hb) M1.2 hw1;have hw2:=b2.1.trans hw1;generalize hM2:aX (dK tk id A) vs M1.2=M2 at b2 c2 hw2 hb ⊢;have bS:∀x∈ss,∀w,w.nums.length=A.length→Bh w (eD tk id A x w).2 (eZ x):=fun x _ w hw=>(kM x.2 A w hw).mono (by rw[tU];omega);have b3:=jQ (f:=eD tk id A) (c:=eZ) (k:=A.length) ss bS M2.2 hw2;have c3:=qU (F:=eD tk id A) (f:=nO) (g:=nO) (c:=eZ) (k:=A.length) ss bS (fun x hx w hw h hb=>by
  have:=i1 x hx A w hw h hb;exact⟨by have:=this.1;simp only[eD,nO];omega,this.2⟩) M2.2 hw2
 have hw3:=b3.1.trans hw2;generalize hM3:aX (eD tk id A) ss M2.2=M3 at b3 c3 hw3 hb ⊢;have bF:∀x∈fs,∀w,w.nums.length=A.length→Bh w (eT tk id A x w).2 (eQ x):=fun x _ w hw=>(zi2 x.2 w hw).mono (by rw[qH];omega);have b4:=jQ (f:=eT tk id A) (c:=eQ) (k:=A.length) fs bF M3.2 hw3;have c4:=qU (F:=eT tk id A) (f:=nP) (g:=nP) (c:=eQ) (k:=A.length) fs bF (fun x hx w hw h hb=>by
  have k1:=kM (tk:=tk) (sb:=id) x.2.2.1 (A++x.2.1) (aQ x.2.1.length w) (eS hw);have l1:=k1.1.trans (eS (l:=x.2.1) hw);have k2:=kM (tk:=tk) (sb:=id) x.2.2.2.2 (A++x.2.1++x.2.2.2.1) (aQ x.2.2.2.1.length (aS tk id (A++x.2.1) x.2.2.1 (aQ x.2.1.length w)).2) (eS l1);simp only[eT,fnF,cL,dO]at hb;have h1:=(i2 x hx).1 (A++x.2.1) (aQ x.2.1.length w) (eS hw) (h.enter _) (kz7 k2.2.1 hb);have h2:=(i2 x hx).2 (A++x.2.1++x.2.2.2.1) (aQ x.2.2.2.1.length (aS tk id (A++x.2.1) x.2.2.1 (aQ x.2.1.length w)).2) (eS l1) (h1.2.enter _) hb;refine⟨?_,(h2.2.leave (A++x.2.1).length).leave A.length⟩;have:=h1.1;have:=h2.1;simp only[eT,fnF,cL,nP];omega) M3.2 hw3
 have hw4:=b4.1.trans hw3;generalize hM4:aX (eT tk id A) fs M3.2=M4 at b4 c4 hw4 hb ⊢;have bG:∀x∈gs,∀w,w.nums.length=A.length→Bh w (jB tk id A x w).2 (fJ x):=fun x _ w hw=>(uD x.2 w hw).mono (by rw[tV];omega);have b5:=jQ (f:=jB tk id A) (c:=fJ) (k:=A.length) gs bG M4.2 hw4;have c5:=qU (F:=jB tk id A) (f:=nQ) (g:=nQ) (c:=fJ) (k:=A.length) gs bG (fun x hx w hw h hb=>by
  have h1:=i3 x hx (A++x.2.1) (aQ x.2.1.length w) (eS hw) (h.enter _) hb;refine⟨?_,h1.2.leave A.length⟩;have:=h1.1;simp only[jB,cL,nQ];omega) M4.2 hw4
 have n5:=hb;have n4:=kz7 b5.2.1 n5;have n3:=kz7 b4.2.1 n4;have n2:=kz7 b3.2.1 n3;have n1:=kz7 b2.2.1 n2;have d1:=c1 n1;have d2:=c2 d1.2 n2;have d3:=c3 d2.2 n3;have d4:=c4 d3.2 n4;have d5:=c5 d4.2 n5;refine⟨?_,d5.2⟩;have:=d1.1;have:=d2.1;have:=d3.1;have:=d4.1;have:=d5.1;omega
theorem kg5 (l:List Int) (s:Stx) (hs:stn s<10000000):wSt (cG ltN (l,s)).2≤wSt s:=by
 have h1:=uF (tk:=[]) (sb:=id) (l,s) hs (by simp);have hf:(bX (l,s)).length<10000000:=by
  have:=h1.2;unfold bX;simp only at this;omega
 have h2:=uF (tk:=bX (l,s)) (sb:=id) (l,bH ltN s) (by rw[zP];exact hs) hf;have h3:=kg4 (tk:=bX (l,s)) (bH ltN s) ([]++l) (aQ l.length w0) (by simp[aQ,w0]) (Ir.enter ⟨Int.le_refl _,fun k hk=>by cases hk⟩ _) (by
  have:(cL (bX (l,s)) id [] (l,bH ltN s) w0).2.next=(aS (bX (l,s)) id ([]++l) (bH ltN s) (aQ l.length w0)).2.next:=rfl;omega)
 have h4:=h3.1;rw[kf9]at h4;exact h4
end Go.Vt.Tryz
