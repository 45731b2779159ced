import Derived.Test.YtdabfkmhkoppcaaGreatDoorVtOrd4
set_option linter.all false
open List renaming getElem?_eq_some_iff→kp9,mem_range→kx6,range→kt4
namespace Go.Vt
set_option linter.unusedSectionVars false
set_option linter.unusedVariables false
variable [cJ]
def cF (h:aB) (ids:List Nat):V→Option V
 |.tup vs=>(cE h ids vs).map .tup
 |v=>bP h ids v
def fin (n:Nat) (ids:List Nat) (h:aB) (r:V):Option (V×aB):=
 if bO ids=true∧ids.take n=kt4 n then
  match bA h (idx ids) ids,cF h ids r with
  |some hs,some r'=>some (r',hs)
  |_,_=>none
 else none
variable {P:Program} {w w0:World} {μ μ0:Pl} {h h0:aB} {T:Sl} {a:Act} {N:Nat} {df:List Deferred}
theorem jt0 {ids lent:List Nat} {hs:aB} (H:aR w μ h) (hh:bA h (idx ids) ids=some hs) {v v':V} {x:Value} (hx:aZ w μ h v x) (hr:cF h ids v=some v') (hsub:∀id o,h[id]?=some o→id∈lent):aZ w (gE μ h ids lent) hs v' x:=by
 have one:∀{v v':V} {x:Value},aZ w μ h v x→bP h ids v=some v'→aZ w (gE μ h ids lent) hs v' x:=by
  intro v v' x hx hr;refine zS1 H hh hx hr fun id hi=>?_;have hlent:=zp0 (h:=h) (ids:=ids) (vs:=[v]) (vs':=[v']) (by simp[cE,hr]) id (by simp[dM,hi]);obtain⟨_,ty,fz,sz,ver,xs,hid⟩:=hlent;exact hsub id _ hid
 cases hx with
 |@tup vs cs e1 e2=>
  simp only[cF]at hr;cases hl:cE h ids vs with
  |none=>simp[hl]at hr
  |some vs'=>
   simp[hl]at hr;subst hr;obtain⟨a1,a2⟩:=zo8 hl;refine .tup (a1.trans e1) fun j l v hj hv=>?_;obtain⟨v0,b1,b2,_⟩:=a2 j l hj;exact one (e2 j v0 v b1 hv) b2
 |one ho hl=>exact one (.one ho hl) hr
 |top=>exact one .top hr
 |agg e1 e2 e3=>exact one (.agg e1 e2 e3) hr
theorem zV8 {ids:List Nat} {hs:aB} (H:aR w μ h) (G:Good w0 μ0 h0 w μ h) (hn:bO ids=true) (htk:ids.take h0.length=kt4 h0.length) (hh:bA h (idx ids) ids=some hs) :
  ∃μ',aR w μ' hs∧(∀r r' x,aZ w μ h r x→cF h ids r=some r'→aZ w μ' hs r' x)∧Good w0 μ0 h0 w μ' hs:=by
 have hX:(gE μ h ids (kt4 h.length)).X=μ.X:=by
  funext b;apply propext;constructor
  ·rintro(hb|⟨id,o,h1,_,_,_,h2⟩)
   ·exact hb
   ·exact absurd (kx6.2 (kp9.1 h1).1) h2
  ·exact .inl
 have hid:∀id,id<h0.length→ids[id]?=some id:=by
  intro id hlt;have:(ids.take h0.length)[id]?=some id:=by rw[htk];simp[hlt]
  rw[List.getElem?_take]at this;simpa[hlt]using this
 have hget:∀{id:Nat} {o:aI},id<h0.length→h[id]?=some o→∃o',hs[id]?=some o'∧bD (idx ids) o=some o'∧(gE μ h ids (kt4 h.length)) id=μ id:=by
  intro id o hlt ho;exact zo6 hh (zc6 hn (hid id hlt)) ho
 refine⟨gE μ h ids (kt4 h.length),zS2 hn H hh,fun r r' x hx hr=>jt0 H hh hx hr (fun id o ho=>kx6.2 (kp9.1 ho).1),?_⟩;refine⟨G.os,G.tape,G.output,G.size,hX.trans G.out,G.block,G.shape,?_,?_,?_,?_,?_⟩
 ·intro b hb;obtain⟨k,id,o,_,a1,a2,a3⟩:=sU hh hb;exact G.fresh b ⟨id,o,a1,a2,a3⟩
 ·rw[(pL hh).1];have:(ids.take h0.length).length=h0.length:=by rw[htk];simp
  rw[List.length_take]at this;omega
 ·intro id ty cells hb;have hlt:=(kp9.1 hb).1;rcases G.boxes id cells hb with hd|⟨c1,y1,h1,e1,m1⟩
  ·obtain⟨o',a1,a2,a3⟩:=hget hlt hd;cases a2;exact .inl a1
  ·obtain⟨o',a1,a2,a3⟩:=hget hlt h1;simp only[bD]at a2;cases hc:aG.renLs (idx ids) c1 with
   |none=>simp[hc]at a2
   |some c2=>
    simp[hc]at a2;subst a2;exact .inr ⟨c2,_,a1,(nV hc).1.trans e1,a3.trans m1⟩
 ·intro id ty fz sz ver xs hb;have hlt:=(kp9.1 hb).1;rcases G.arrs id fz sz ver xs hb with hd|⟨f1,s1,v1,x1,y1,h1,e1⟩
  ·obtain⟨o',a1,a2,a3⟩:=hget hlt hd;cases a2;exact .inl a1
  ·obtain⟨o',a1,a2,a3⟩:=hget hlt h1;cases a2;refine .inr ⟨f1,s1,v1,x1,_,a1,?_⟩;rcases e1 with⟨b1,b2,b3,b4⟩|e1
   ·exact .inl ⟨b1,b2,b3,a3.trans b4⟩
   ·exact .inr e1
 ·intro id hb;have hlt:=(kp9.1 hb).1;obtain⟨o',a1,a2,a3⟩:=hget hlt (G.deads id hb);cases a2;exact a1
theorem zr0 {ids:List Nat} {r r':V} {hs:aB} {x:Value} (H:aR w μ h) (G:Good w0 μ0 h0 w μ h) (hx:aZ w μ h r x) (hf:fin h0.length ids h r=some (r',hs)) :
  ∃μ',aR w μ' hs∧aZ w μ' hs r' x∧Good w0 μ0 h0 w μ' hs:=by
 unfold fin at hf;split at hf
 ·rename_i hc;split at hf
  ·rename_i hs' r1 hh hr;cases hf;obtain⟨μ',a,b,c⟩:=zV8 H G hc.1 hc.2 hh;exact⟨μ',a,b _ _ _ hx hr,c⟩
  ·cases hf
 ·cases hf
end Go.Vt
