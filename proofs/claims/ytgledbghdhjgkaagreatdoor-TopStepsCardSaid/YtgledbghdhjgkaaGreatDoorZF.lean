/-
  A part of the proof that TopSteps answers true for every input that can be read as data.
-/
import Derived.Test.YtgledbghdhjgkaaGreatDoorZC
import Derived.Test.YtgledbghdhjgkaaGreatDoorZD
import Derived.TacticsIn
import Derived.RangeFuncLeaves
import Derived.RangeFuncCalls
import Derived.RangeFuncNested
import Derived.Test.YtgledbghdhjgkaaGreatDoorChecked
set_option linter.unusedSimpArgs false
set_option linter.unusedVariables false
namespace Go.TM
open Go Go.RowKit
inductive TV where
 | b (x:Option Bool)
 | bp (p:Prop)
 | i (k:IntKind) (x:Option Int)
 | f
 | pn
 | p (T:List TV)
 | s (T:List TV) (n:Option Int)
 | m (kt:TypeId) (v:TV)
 | fn (g:FuncId) (fs cs:List TV)
 | y (r:Nat)
 | bD
 | agg (cs:List TV)
 | aF (cs:List TV)
 | val (v:Value)
 | bg
 | ow (cs:List TV)
 | aac (d o:Nat)
 | oC (T:List TV) (k:Nat)
 | tab (kt:TypeId) (ks:List Value) (vs:List TV)
 | rg (k:IntKind) (m:Nat)
 | pb (T:List TV)
 | np (z:Int) (T:List TV)
inductive TB where
 | row (T:List TV) (n:Nat)
 | map (kt:TypeId) (v:TV)
 | tab (kt:TypeId) (ks:List Value) (vs:List TV)
abbrev TE:=Nat->Option TB
mutual
def af (σ:TE):TV->Value->Prop
 | .b none,v=>∃x,v= .bool x
 | .b (some x),v=>v= .bool x
 | .bp p,v=>∃x,v= .bool x/\(x=true↔p)
 | .i k none,v=>∃n,v= .int k n/\k.has n
 | .i k (some n),v=>v= .int k n
 | .f,v=>∃x,v= .float .f64 x/\x < 18446744073709551616
 | .pn,v=>v= .pointer none
 | .p T,v=>∃r o B n j q u,v= .pointer (some ⟨r,o,none⟩)/\σ r=some (.row B n)/\o=j*B.length+q/\j < n/\q+T.length<=B.length/\B.drop q=T++u
 | .s T x,v=>∃A k C,v= .slice A k C/\(∀z,x=some z->(k:Int)=z)/\(k<=C/\k<=68719476736/\(x=none->k<=1000000000))/\(A=none->C=0)/\∀a,A=some a->∃r j m,a=⟨r,j*T.length,none⟩/\σ r=some (.row T m)/\j+C<=m
 | .m kt t,v=>∃r,v= .map (some r)/\σ r=some (.map kt t)
 | .fn g fs cs,v=>∃vs us,v= .func (.func g) vs us/\ai σ fs vs.toList/\ai σ cs us.toList
 | .y r,v=>v= .func (.yield r) #[] #[]
 | .bD,v=>v= .nilFunc
 | .agg cs,v=>∃vs,v= .agg vs/\ai σ cs vs.toList
 | .aF cs,v=>∃vs,v= .tuple vs/\ai σ cs vs.toList
 | .val u,v=>v=u
 | .bg,_=>True
 | .ow _,_=>True
 | .aac _ _,_=>True
 | .oC T k,v=>∃r C,v= .slice (some ⟨r,0,none⟩) k C/\(k<=C/\k<=68719476736)/\σ r=some (.row T 1)
 | .tab kt ks vs,v=>∃r,v= .map (some r)/\σ r=some (.tab kt ks vs)
 | .rg k m,v=>∃n:Int,v= .int k n/\0<=n/\n<=m
 | .pb T,v=>∃r,v= .pointer (some ⟨r,0,none⟩)/\σ r=some (.row T 1)
 | .np z T,v=>(z=0/\v= .pointer none)\/(z=1/\∃r,v= .pointer (some ⟨r,0,none⟩)/\σ r=some (.row T 1))
def ai (σ:TE):List TV->List Value->Prop
 | [],vs=>vs=[]
 | a::ae,vs=>∃v r,vs=v::r/\af σ a v/\ai σ ae r
end
def Ext (σ σ':TE):Prop:=∀r B,σ r=some B->σ' r=some B
theorem Ext.refl (σ:TE):Ext σ σ:=fun _ _ h=>h
theorem Ext.trans {σ σ1 σ2:TE} (h:Ext σ σ1) (k:Ext σ1 σ2):Ext σ σ2:=fun r B e=>k r B (h r B e)
mutual
theorem af.ext {σ σ':TE} (h:Ext σ σ'):∀(a:TV) (v:Value),af σ a v->af σ' a v
 | .b none,v,r=>by simpa only [af] using r
 | .b (some x),v,r=>by simpa only [af] using r
 | .bp p,v,r=>by simpa only [af] using r
 | .i k none,v,r=>by simpa only [af] using r
 | .i k (some n),v,r=>by simpa only [af] using r
 | .f,v,r=>by simpa only [af] using r
 | .pn,v,r=>by simpa only [af] using r
 | .p T,v,r=>by
  simp only [af] at r ⊢
  obtain⟨a,o,B,n,j,q,u,e,h1,h2⟩:=r
  exact⟨a,o,B,n,j,q,u,e,h _ _ h1,h2⟩
 | .s T x,v,r=>by
  simp only [af] at r ⊢
  obtain⟨A,k,C,e,h1,h2,h3,h4⟩:=r
  refine⟨A,k,C,e,h1,h2,h3,fun a ha=>?_⟩
  obtain⟨r,j,m,e,k1,k2⟩:=h4 a ha
  exact⟨r,j,m,e,h _ _ k1,k2⟩
 | .m kt t,v,r=>by
  simp only [af] at r ⊢
  obtain⟨a,e,h1⟩:=r
  exact⟨a,e,h _ _ h1⟩
 | .fn g fs cs,v,r=>by
  simp only [af] at r ⊢
  obtain⟨vs,us,e,h1,h2⟩:=r
  exact⟨vs,us,e,ai.ext h fs _ h1,ai.ext h cs _ h2⟩
 | .y l,v,r=>by simpa only [af] using r
 | .bD,v,r=>by simpa only [af] using r
 | .agg cs,v,r=>by
  simp only [af] at r ⊢
  obtain⟨vs,e,h1⟩:=r
  exact⟨vs,e,ai.ext h cs _ h1⟩
 | .aF cs,v,r=>by
  simp only [af] at r ⊢
  obtain⟨vs,e,h1⟩:=r
  exact⟨vs,e,ai.ext h cs _ h1⟩
 | .val u,v,r=>by simpa only [af] using r
 | .bg,v,r=>by simp only [af]
 | .ow _,v,r=>by simp only [af]
 | .aac _ _,v,r=>by simp only [af]
 | .oC T k,v,r=>by
  simp only [af] at r ⊢
  obtain⟨a,C,e,h1,h2⟩:=r
  exact⟨a,C,e,h1,h _ _ h2⟩
 | .tab kt ks vs,v,r=>by
  simp only [af] at r ⊢
  obtain⟨a,e,h1⟩:=r
  exact⟨a,e,h _ _ h1⟩
 | .rg k m,v,r=>by simpa only [af] using r
 | .pb T,v,r=>by
  simp only [af] at r ⊢
  obtain⟨a,e,h1⟩:=r
  exact⟨a,e,h _ _ h1⟩
 | .np z T,v,r=>by
  simp only [af] at r ⊢
  rcases r with r | ⟨hz,a,e,h1⟩
  ·exact .inl r
  ·exact .inr ⟨hz,a,e,h _ _ h1⟩
theorem ai.ext {σ σ':TE} (h:Ext σ σ'):∀(ae:List TV) (vs:List Value),ai σ ae vs->ai σ' ae vs
 | [],vs,r=>by simpa only [ai] using r
 | a::ae,vs,r=>by
  simp only [ai] at r ⊢
  obtain⟨v,q,e,h1,h2⟩:=r
  exact⟨v,q,e,af.ext h a v h1,ai.ext h ae q h2⟩
end
section
variable {σ:TE}
theorem ai.length:∀{ae:List TV} {vs:List Value},ai σ ae vs->ae.length=vs.length
 | [],vs,r=>by simp only [ai] at r;subst r;rfl
 | a::ae,vs,r=>by
  simp only [ai] at r
  obtain⟨v,q,rfl,_,h2⟩:=r
  simp [ai.length h2]
theorem ai.get:∀{ae:List TV} {vs:List Value},ai σ ae vs->∀{i:Nat} {a:TV},ae[i]?=some a->∃v,vs[i]?=some v/\af σ a v
 | [],vs,_,i,a,h=>by simp at h
 | a::ae,vs,r,i,b,h=>by
  simp only [ai] at r
  obtain⟨v,q,rfl,h1,h2⟩:=r
  cases i with
  | zero=>simp at h;subst h;exact⟨v,rfl,h1⟩
  | succ i=>exact ai.get h2 (by simpa using h)
theorem ai.getD {ae:List TV} {vs:List Value} (r:ai σ ae vs) (i:Nat) (u:Value):af σ (ae.getD i .bg) (vs.getD i u):=by
 rw [List.getD_eq_getElem?_getD,List.getD_eq_getElem?_getD]
 cases h:ae[i]? with
 | none=>simp [af]
 | some a=>
  obtain⟨v,hv,hr⟩:=r.get h
  simpa [hv] using hr
theorem ai.set:∀{ae:List TV} {vs:List Value},ai σ ae vs->∀(i:Nat) {a:TV} {v:Value},af σ a v->ai σ (ae.set i a) (vs.set i v)
 | [],vs,r,i,a,v,_=>by simp only [ai] at r;subst r;simp [ai]
 | b::ae,vs,r,i,a,v,h=>by
  simp only [ai] at r
  obtain⟨u,q,rfl,h1,h2⟩:=r
  cases i with
  | zero=>exact⟨v,q,rfl,h,h2⟩
  | succ i=>exact⟨u,q.set i v,rfl,h1,ai.set h2 i h⟩
theorem ai.append:∀{ae bs:List TV} {vs us:List Value},ai σ ae vs->ai σ bs us->ai σ (ae++bs) (vs++us)
 | [],bs,vs,us,r,k=>by simp only [ai] at r;subst r;exact k
 | a::ae,bs,vs,us,r,k=>by
  simp only [ai] at r
  obtain⟨v,q,rfl,h1,h2⟩:=r
  exact⟨v,q++us,rfl,h1,ai.append h2 k⟩
theorem ai.take:∀{ae:List TV} {vs:List Value},ai σ ae vs->∀i,ai σ (ae.take i) (vs.take i)
 | [],vs,r,i=>by simp only [ai] at r;subst r;simp [ai]
 | a::ae,vs,r,i=>by
  simp only [ai] at r
  obtain⟨v,q,rfl,h1,h2⟩:=r
  cases i with
  | zero=>simp [ai]
  | succ i=>exact⟨v,q.take i,rfl,h1,ai.take h2 i⟩
theorem ai.drop:∀{ae:List TV} {vs:List Value},ai σ ae vs->∀i,ai σ (ae.drop i) (vs.drop i)
 | [],vs,r,i=>by simp only [ai] at r;subst r;simp [ai]
 | a::ae,vs,r,i=>by
  cases i with
  | zero=>exact r
  | succ i=>
   simp only [ai] at r
   obtain⟨v,q,rfl,h1,h2⟩:=r
   exact ai.drop h2 i
theorem ai.one {a:TV} {v:Value} (h:af σ a v):ai σ [a] [v]:=⟨v,[],rfl,h,by simp [ai]⟩
theorem ai.of:∀{ae:List TV} {vs:List Value},ae.length=vs.length->(∀(i:Nat) (a:TV) (v:Value),ae[i]?=some a->vs[i]?=some v->af σ a v)->ai σ ae vs
 | [],vs,hl,_=>by simp only [ai];exact List.length_eq_zero_iff.1 hl.symm
 | a::ae,[],hl,_=>by simp at hl
 | a::ae,v::vs,hl,h=>⟨v,vs,rfl,h 0 a v rfl rfl,ai.of (by simpa using hl) fun i x y hx hy=>h (i+1) x y (by simpa using hx) (by simpa using hy)⟩
end
structure wQ where
 state:LoopState
 pending:Option Code
 tmps:List TV
 params:Array Tmp
 assign:Code
 body:Code
 defers:Nat
inductive I6 where
 | loop (r:wQ)
 | ng
 | own (cs:List TV)
abbrev G:=Nat->Option I6
def oo (σ:TE):I6->Obj->Prop
 | .loop r,o=>∃fn tm,o= .loop {state:=r.state,pending:=r.pending,fn,tmps:=tm,params:=r.params,assign:=r.assign,body:=r.body,defers:=r.defers}/\ai σ r.tmps tm.toList
 | .ng,o=>o= .deferred (some [])
 | .own cs,o=>∃C e,o= .cells C e (0,0)/\ai σ cs C.toList
theorem oo.ext {σ σ':TE} (h:Ext σ σ'):∀{a:I6} {o:Obj},oo σ a o->oo σ' a o
 | .loop r,o,q=>by
  obtain⟨fn,tm,e,ht⟩:=q
  exact⟨fn,tm,e,ai.ext h _ _ ht⟩
 | .ng,o,q=>q
 | .own cs,o,q=>by
  obtain⟨C,e,ho,h1⟩:=q
  exact⟨C,e,ho,ai.ext h _ _ h1⟩
def PX (σ:TE) (E:List MapEntry):List Value->List TV->Prop
 | k::ks,a::vs=>(∃e∈E,e.key=k)/\(∀e∈E,e.key=k->af σ a e.val)/\PX σ E ks vs
 | [],[]=>True
 | _,_=>False
theorem PX.ext {σ σ':TE} (h:Ext σ σ') {E:List MapEntry}:∀{ks:List Value} {vs:List TV},PX σ E ks vs->PX σ' E ks vs
 | k::ks,a::vs,⟨h1,h2,h3⟩=>⟨h1,fun e he q=>(h2 e he q).ext h,PX.ext h h3⟩
 | [],[],_=>trivial
 | _::_,[],q=>q.elim
 | [],_::_,q=>q.elim
def RelB (P:Program) (σ:TE):TB->Obj->Prop
 | .row T n,o=>∃C e,o= .cells C e (0,0)/\C.size=n*T.length/\(∀v∈C.toList,v.oneCell'=true)/\∀(i:Nat) (a:TV),i < C.size->T[i % T.length]?=some a->∃v,C[i]?=some v/\af σ a v
 | .map kt t,o=>∃E c,o= .map E c/\∀e∈E,AM.oK P kt e.key/\af σ t e.val
 | .tab kt ks vs,o=>∃E c,o= .map E c/\(∀e∈E.toList,AM.oK P kt e.key)/\PX σ E.toList ks vs
theorem RelB.ext {P:Program} {σ σ':TE} (h:Ext σ σ'):∀{a:TB} {o:Obj},RelB P σ a o->RelB P σ' a o
 | .row T n,o,q=>by
  obtain⟨C,e,ho,h1,h0,h2⟩:=q
  refine⟨C,e,ho,h1,h0,fun i a hi ha=>?_⟩
  obtain⟨v,hv,hr⟩:=h2 i a hi ha
  exact⟨v,hv,hr.ext h⟩
 | .map kt t,o,q=>by
  obtain⟨E,c,ho,h1⟩:=q
  exact⟨E,c,ho,fun e he=>⟨(h1 e he).1,(h1 e he).2.ext h⟩⟩
 | .tab kt ks vs,o,q=>by
  obtain⟨E,c,ho,h1,h2⟩:=q
  exact⟨E,c,ho,h1,h2.ext h⟩
structure TW (P:Program) (w0:World) (σ:TE) (g:G) (w:World):Prop where
 blk:∀r B,σ r=some B->∃o,w.heap[r]?=some o/\RelB P σ B o
 obj:∀r o,g r=some o->σ r=none/\∃O,w.heap[r]?=some O/\oo σ o O
 wt:∀r B,σ r=some B->w0.heap.size<=r
 wg:∀r o,g r=some o->w0.heap.size<=r
 below:Below w0.heap.size w0 w
structure aJ (P:Program) (w0:World) (σ:TE) (g:G) (w:World) (σ':TE) (g':G) (w':World):Prop where
 ext:Ext σ σ'
 size:w.heap.size<=w'.heap.size
 frame:∀r,r < w.heap.size->σ r=none->g r=none->w'.heap[r]?=w.heap[r]?/\σ' r=none/\g' r=none
 rel:TW P w0 σ' g' w'
section
variable {P:Program} {w0:World}
theorem aJ.refl {σ:TE} {g:G} {w:World} (r:TW P w0 σ g w):aJ P w0 σ g w σ g w:=⟨.refl _,Nat.le_refl _,fun _ _ h1 h2=>⟨rfl,h1,h2⟩,r⟩
theorem aJ.trans {σ σ1 σ2:TE} {g g1 g2:G} {w w1 w2:World} (p:aJ P w0 σ g w σ1 g1 w1) (q:aJ P w0 σ1 g1 w1 σ2 g2 w2):aJ P w0 σ g w σ2 g2 w2:=
 ⟨p.ext.trans q.ext,Nat.le_trans p.size q.size,fun r hr h1 h2=>by
  obtain⟨a,b,c⟩:=p.frame r hr h1 h2
  obtain⟨d,e,f⟩:=q.frame r (Nat.lt_of_lt_of_le hr p.size) b c
  exact⟨d.trans a,e,f⟩,q.rel⟩
theorem TW.lt {σ:TE} {g:G} {w:World} (r:TW P w0 σ g w) {a:Nat} {B:TB} (h:σ a=some B):a < w.heap.size:=by
 obtain⟨o,ho,_⟩:=r.blk a B h
 exact(Array.getElem?_eq_some_iff.1 ho).1
theorem TW.Ya {σ:TE} {g:G} {w:World} (r:TW P w0 σ g w) {a:Nat} {B:I6} (h:g a=some B):a < w.heap.size:=by
 obtain⟨_,o,ho,_⟩:=r.obj a B h
 exact(Array.getElem?_eq_some_iff.1 ho).1
theorem TW.drew {σ:TE} {g:G} {w:World} (r:TW P w0 σ g w):TW P w0 σ g w.drew:=⟨r.blk,r.obj,r.wt,r.wg,⟨r.below.os,r.below.tape,r.below.output,r.below.size,r.below.block⟩⟩
theorem aJ.drew {σ:TE} {g:G} {w:World} (r:TW P w0 σ g w):aJ P w0 σ g w σ g w.drew:=⟨.refl _,Nat.le_refl _,fun _ _ h1 h2=>⟨rfl,h1,h2⟩,r.drew⟩
def TE.put (σ:TE) (r:Nat) (B:TB):TE:=fun a=>if a=r then some B else σ a
def G.put (g:G) (r:Nat) (o:I6):G:=fun a=>if a=r then some o else g a
def G.del (g:G) (r:Nat):G:=fun a=>if a=r then none else g a
theorem TW.free {σ:TE} {g:G} {w:World} (r:TW P w0 σ g w):σ w.heap.size=none/\g w.heap.size=none:=by
 constructor
 ·cases h:σ w.heap.size with
  | none=>rfl
  | some B=>exact absurd (r.lt h) (Nat.lt_irrefl _)
 ·cases h:g w.heap.size with
  | none=>rfl
  | some B=>exact absurd (r.Ya h) (Nat.lt_irrefl _)
theorem Ext.put {σ:TE} {r:Nat} {B:TB} (h:σ r=none):Ext σ (σ.put r B):=fun a C e=>by
 unfold TE.put
 rw [if_neg]
 ·exact e
 ·intro q;subst q;rw [h] at e;cases e
theorem aJ.push {σ:TE} {g:G} {w:World} (r:TW P w0 σ g w) (B:TB) (O:Obj) (hB:RelB P (σ.put w.heap.size B) B O):aJ P w0 σ g w (σ.put w.heap.size B) g (w.alloc O):=by
 obtain⟨f1,f2⟩:=r.free
 have hx:Ext σ (σ.put w.heap.size B):=Ext.put f1
 have hold:∀k,k < w.heap.size->(w.alloc O).heap[k]?=w.heap[k]?:=fun k hk=>Below.heap_alloc _ _ _ hk
 have hnew:(w.alloc O).heap[w.heap.size]?=some O:=by show(w.heap.push O)[w.heap.size]?=some O;simp
 refine⟨hx,by simp,fun a ha h1 h2=>⟨hold a ha,?_,h2⟩,⟨fun a C e=>?_,fun a o e=>?_,fun a C e=>?_,r.wg,?_⟩⟩
 ·unfold TE.put
  rw [if_neg (by omega)];exact h1
 ·by_cases h:a=w.heap.size
  ·subst h
   unfold TE.put at e
   rw [if_pos rfl] at e
   cases e
   exact⟨O,hnew,hB⟩
  ·unfold TE.put at e
   rw [if_neg h] at e
   obtain⟨o,ho,hr⟩:=r.blk a C e
   exact⟨o,by rw [hold a (r.lt e)];exact ho,hr.ext hx⟩
 ·obtain⟨h1,O',hO,hr⟩:=r.obj a o e
  have hl:=r.Ya e
  refine⟨?_,O',by rw [hold a hl];exact hO,hr.ext hx⟩
  unfold TE.put
  rw [if_neg (by omega)];exact h1
 ·unfold TE.put at e
  by_cases h:a=w.heap.size
  ·subst h;exact r.below.size
  ·rw [if_neg h] at e;exact r.wt a C e
 ·have b:=r.below
  exact⟨b.os,b.tape,b.output,by have:=b.size;simp;omega,fun k hk=>by rw [hold k (Nat.lt_of_lt_of_le hk b.size)];exact b.block k hk⟩
theorem aJ.set {σ:TE} {g:G} {w w':World} (r:TW P w0 σ g w) (a:Nat) (B:TB) (h:σ a=some B) (O:Obj) (hO:RelB P σ B O) (hs:w'.heap.size=w.heap.size) (he:∀k,k≠a->w'.heap[k]?=w.heap[k]?) (ha:w'.heap[a]?=some O)
  (h1:w'.os=w.os) (h2:w'.tape=w.tape) (h3:w'.output=w.output):aJ P w0 σ g w σ g w':=by
 refine⟨.refl _,by omega,fun k hk q1 q2=>⟨he k (by intro e;subst e;rw [h] at q1;cases q1),q1,q2⟩,⟨fun k C e=>?_,fun k o e=>?_,r.wt,r.wg,?_⟩⟩
 ·by_cases q:k=a
  ·subst q
   rw [h] at e;cases e
   exact⟨O,ha,hO⟩
  ·obtain⟨o,ho,hr⟩:=r.blk k C e
   exact⟨o,by rw [he k q];exact ho,hr⟩
 ·obtain⟨q1,O',Pk,hr⟩:=r.obj k o e
  exact⟨q1,O',by rw [he k (by intro x;subst x;rw [h] at q1;cases q1)];exact Pk,hr⟩
 ·have b:=r.below
  have hw:=r.wt a B h
  exact⟨h1.trans b.os,h2.trans b.tape,h3.trans b.output,by rw [hs];exact b.size,fun k hk=>by rw [he k (by omega)];exact b.block k hk⟩
theorem aJ.UM {σ:TE} {g:G} {w:World} (r:TW P w0 σ g w) (o:I6) (O:Obj) (hO:oo σ o O):aJ P w0 σ g w σ (g.put w.heap.size o) (w.alloc O):=by
 obtain⟨f1,f2⟩:=r.free
 have hold:∀k,k < w.heap.size->(w.alloc O).heap[k]?=w.heap[k]?:=fun k hk=>Below.heap_alloc _ _ _ hk
 have hnew:(w.alloc O).heap[w.heap.size]?=some O:=by show(w.heap.push O)[w.heap.size]?=some O;simp
 refine⟨.refl _,by simp,fun a ha h1 h2=>⟨hold a ha,h1,?_⟩,⟨fun a C e=>?_,fun a q e=>?_,r.wt,fun a q e=>?_,?_⟩⟩
 ·unfold G.put
  rw [if_neg (by omega)];exact h2
 ·obtain⟨o,ho,hr⟩:=r.blk a C e
  exact⟨o,by rw [hold a (r.lt e)];exact ho,hr⟩
 ·unfold G.put at e
  by_cases h:a=w.heap.size
  ·subst h
   rw [if_pos rfl] at e;cases e
   exact⟨f1,O,hnew,hO⟩
  ·rw [if_neg h] at e
   obtain⟨h1,O',Pk,hr⟩:=r.obj a q e
   exact⟨h1,O',by rw [hold a (r.Ya e)];exact Pk,hr⟩
 ·unfold G.put at e
  by_cases h:a=w.heap.size
  ·subst h;exact r.below.size
  ·rw [if_neg h] at e;exact r.wg a q e
 ·have b:=r.below
  exact⟨b.os,b.tape,b.output,by have:=b.size;simp;omega,fun k hk=>by rw [hold k (Nat.lt_of_lt_of_le hk b.size)];exact b.block k hk⟩
theorem aJ.setG {σ:TE} {g:G} {w w':World} (r:TW P w0 σ g w) (a:Nat) (o:I6) (h:g a=some o) (o':Option I6) (hO:∀x,o'=some x->∃O,w'.heap[a]?=some O/\oo σ x O) (hs:w'.heap.size=w.heap.size) (he:∀k,k≠a->w'.heap[k]?=w.heap[k]?)
  (h1:w'.os=w.os) (h2:w'.tape=w.tape) (h3:w'.output=w.output):aJ P w0 σ g w σ (fun k=>if k=a then o' else g k) w':=by
 obtain⟨hσ,_⟩:=r.obj a o h
 refine⟨.refl _,by omega,fun k hk q1 q2=>?_,⟨fun k C e=>?_,fun k q e=>?_,r.wt,fun k q e=>?_,?_⟩⟩
 ·have hne:k≠a:=by intro e;subst e;rw [h] at q2;cases q2
  exact⟨he k hne,q1,by rw [if_neg hne];exact q2⟩
 ·have hne:k≠a:=by intro x;subst x;rw [hσ] at e;cases e
  obtain⟨O,Pk,hr⟩:=r.blk k C e
  exact⟨O,by rw [he k hne];exact Pk,hr⟩
 ·by_cases hk:k=a
  ·subst hk
   rw [if_pos rfl] at e
   exact⟨hσ,hO q e⟩
  ·rw [if_neg hk] at e
   obtain⟨q1,O',Pk,hr⟩:=r.obj k q e
   exact⟨q1,O',by rw [he k hk];exact Pk,hr⟩
 ·by_cases hk:k=a
  ·subst hk;exact r.wg k o h
  ·rw [if_neg hk] at e;exact r.wg k q e
 ·have b:=r.below
  have hw:=r.wg a o h
  exact⟨h1.trans b.os,h2.trans b.tape,h3.trans b.output,by rw [hs];exact b.size,fun k hk=>by rw [he k (by omega)];exact b.block k hk⟩
theorem aJ.fewer {σ σ':TE} {g g' g2:G} {w w':World} (p:aJ P w0 σ g w σ' g' w') (h:∀r o,g2 r=some o->g' r=some o):aJ P w0 σ g w σ' g2 w':=by
 refine⟨p.ext,p.size,fun r hr h1 h2=>?_,⟨p.rel.blk,fun r o e=>p.rel.obj r o (h r o e),p.rel.wt,fun r o e=>p.rel.wg r o (h r o e),p.rel.below⟩⟩
 obtain⟨a,b,c⟩:=p.frame r hr h1 h2
 refine⟨a,b,?_⟩
 cases e:g2 r with
 | none=>rfl
 | some o=>rw [h r o e] at c;cases c
theorem aJ.raw {σ:TE} {g:G} {w:World} (r:TW P w0 σ g w) (O:Obj):aJ P w0 σ g w σ g (w.alloc O):=by
 have hold:∀k,k < w.heap.size->(w.alloc O).heap[k]?=w.heap[k]?:=fun k hk=>Below.heap_alloc _ _ _ hk
 refine⟨.refl _,by simp,fun a ha h1 h2=>⟨hold a ha,h1,h2⟩,⟨fun a C e=>?_,fun a q e=>?_,r.wt,r.wg,?_⟩⟩
 ·obtain⟨o,ho,hr⟩:=r.blk a C e
  exact⟨o,by rw [hold a (r.lt e)];exact ho,hr⟩
 ·obtain⟨h1,O',Pk,hr⟩:=r.obj a q e
  exact⟨h1,O',by rw [hold a (r.Ya e)];exact Pk,hr⟩
 ·have b:=r.below
  exact⟨b.os,b.tape,b.output,by have:=b.size;simp;omega,fun k hk=>by rw [hold k (Nat.lt_of_lt_of_le hk b.size)];exact b.block k hk⟩
theorem TW.other {σ:TE} {g:G} {w w':World} (r:TW P w0 σ g w) (a:Nat) (h0:w0.heap.size<=a) (hσ:σ a=none) (hg:g a=none) (hs:w'.heap.size=w.heap.size) (he:∀k,k≠a->w'.heap[k]?=w.heap[k]?)
  (h1:w'.os=w.os) (h2:w'.tape=w.tape) (h3:w'.output=w.output):TW P w0 σ g w':=by
 refine⟨fun k C e=>?_,fun k q e=>?_,r.wt,r.wg,?_⟩
 ·obtain⟨o,ho,hr⟩:=r.blk k C e
  exact⟨o,by rw [he k (by intro x;subst x;rw [hσ] at e;cases e)];exact ho,hr⟩
 ·obtain⟨q1,O',Pk,hr⟩:=r.obj k q e
  exact⟨q1,O',by rw [he k (by intro x;subst x;rw [hg] at e;cases e)];exact Pk,hr⟩
 ·have b:=r.below
  exact⟨h1.trans b.os,h2.trans b.tape,h3.trans b.output,by rw [hs];exact b.size,fun k hk=>by rw [he k (by omega)];exact b.block k hk⟩
theorem TW.type {σ:TE} {g:G} {w:World} (r:TW P w0 σ g w) (a:Nat) (B:TB) (h0:w0.heap.size<=a) (hσ:σ a=none) (hg:g a=none) {o:Obj} (ho:w.heap[a]?=some o) (hB:RelB P (σ.put a B) B o):TW P w0 (σ.put a B) g w:=by
 have hx:Ext σ (σ.put a B):=Ext.put hσ
 refine⟨fun k C e=>?_,fun k q e=>?_,fun k C e=>?_,r.wg,r.below⟩
 ·by_cases h:k=a
  ·subst h
   unfold TE.put at e
   rw [if_pos rfl] at e;cases e
   exact⟨o,ho,hB⟩
  ·unfold TE.put at e
   rw [if_neg h] at e
   obtain⟨o',h1,h2⟩:=r.blk k C e
   exact⟨o',h1,h2.ext hx⟩
 ·obtain⟨h1,O',Pk,hr⟩:=r.obj k q e
  refine⟨?_,O',Pk,hr.ext hx⟩
  unfold TE.put
  rw [if_neg (by intro x;subst x;rw [hg] at e;cases e)];exact h1
 ·unfold TE.put at e
  by_cases h:k=a
  ·subst h;exact h0
  ·rw [if_neg h] at e;exact r.wt k C e
def bS (tm:Array Value) (d:Nat):Nat:=match tm[d]? with
 | some (.pointer (some a))=>a.block
 | _=>0
structure Own (w0:World) (σ:TE) (g:G) (w:World) (t:List TV) (tm:Array Value):Prop where
 ow:∀(d:Nat) (cs:List TV),t[d]?=some (.ow cs)->∃r,tm[d]?=some (.pointer (some ⟨r,0,none⟩))/\σ r=none/\g r=none/\w0.heap.size<=r/\∃C e,w.heap[r]?=some (.cells C e (0,0))/\ai σ cs C.toList
 inj:∀(d e:Nat) (cs cs':List TV),t[d]?=some (.ow cs)->t[e]?=some (.ow cs')->bS tm d=bS tm e->d=e
 at_:∀(e d o:Nat) (cs:List TV),t[e]?=some (.aac d o)->t[d]?=some (.ow cs)->tm[e]?=some (.pointer (some ⟨bS tm d,o,none⟩))
def qZ (t:List TV) (tm:Array Value) (r:Nat):Prop:=∃(d:Nat) (cs:List TV),t[d]?=some (.ow cs)/\bS tm d=r
structure Rel (P:Program) (w0:World) (σ:TE) (g:G) (t:List TV) (tm:Array Value) (w:World):Prop where
 tl:ai σ t tm.toList
 own:Own w0 σ g w t tm
 tw:TW P w0 σ g w
structure Step (P:Program) (w0:World) (σ:TE) (g:G) (t:List TV) (tm:Array Value) (w:World) (σ':TE) (g':G) (t':List TV) (tm':Array Value) (w':World):Prop where
 rel:Rel P w0 σ' g' t' tm' w'
 ext:Ext σ σ'
 size:w.heap.size<=w'.heap.size
 frame:∀r,r < w.heap.size->σ r=none->g r=none->¬qZ t tm r->w'.heap[r]?=w.heap[r]?/\σ' r=none/\g' r=none/\¬qZ t' tm' r
theorem Step.refl {σ:TE} {g:G} {t:List TV} {tm:Array Value} {w:World} (h:Rel P w0 σ g t tm w):Step P w0 σ g t tm w σ g t tm w:=⟨h, .refl _,Nat.le_refl _,fun _ _ h1 h2 h3=>⟨rfl,h1,h2,h3⟩⟩
theorem Step.trans {σ σ1 σ2:TE} {g g1 g2:G} {t t1 t2:List TV} {tm tm1 X0:Array Value} {w w1 w2:World} (p:Step P w0 σ g t tm w σ1 g1 t1 tm1 w1) (q:Step P w0 σ1 g1 t1 tm1 w1 σ2 g2 t2 X0 w2):Step P w0 σ g t tm w σ2 g2 t2 X0 w2:=
 ⟨q.rel,p.ext.trans q.ext,Nat.le_trans p.size q.size,fun r hr h1 h2 h3=>by
  obtain⟨a,b,c,d⟩:=p.frame r hr h1 h2 h3
  obtain⟨e,f,g,h⟩:=q.frame r (Nat.lt_of_lt_of_le hr p.size) b c d
  exact⟨e.trans a,f,g,h⟩⟩
theorem bP {tm:Array Value} {d r o:Nat} (h:tm[d]?=some (.pointer (some ⟨r,o,none⟩))):bS tm d=r:=by unfold bS;rw [h]
theorem Own.lt {σ:TE} {g:G} {w:World} {t:List TV} {tm:Array Value} (h:Own w0 σ g w t tm) {d:Nat} {cs:List TV} (e:t[d]?=some (.ow cs)):bS tm d < w.heap.size:=by
 obtain⟨r,h1,_,_,_,C,e,h2,_⟩:=h.ow d cs e
 rw [bP h1]
 exact(Array.getElem?_eq_some_iff.1 h2).1
theorem Own.post {σ σ':TE} {g g':G} {w w':World} {t:List TV} {tm:Array Value} (h:Own w0 σ g w t tm) (p:aJ P w0 σ g w σ' g' w'):Own w0 σ' g' w' t tm:=by
 refine⟨fun d cs e=>?_,h.inj,h.at_⟩
 obtain⟨r,h1,h2,h3,h4,C,e',h5,h6⟩:=h.ow d cs e
 have hr:r < w.heap.size:=(Array.getElem?_eq_some_iff.1 h5).1
 obtain⟨a,b,c⟩:=p.frame r hr h2 h3
 exact⟨r,h1,b,c,h4,C,e',by rw [a];exact h5,ai.ext p.ext _ _ h6⟩
end
end Go.TM
namespace Go.TM
open Go Go.RowKit Go.AM
structure St where
 t:List TV
 d:List Nat
 g:G
def marks (d:List Nat):List Deferred:=d.map fun r=>{target:= .collected r,args:=#[]}
structure IZ (P:Program) (w0:World) (σ:TE) (s:St) (a:Act) (w:World):Prop where
 rel:Rel P w0 σ s.g s.t a.tmps w
 d:a.defers=marks s.d
structure Came (P:Program) (w0:World) (σ:TE) (s:St) (a:Act) (w:World) (σ':TE) (s':St) (a':Act) (w':World):Prop where
 step:Step P w0 σ s.g s.t a.tmps w σ' s'.g s'.t a'.tmps w'
 d:a'.defers=marks s'.d
section
variable {P:Program} {w0:World} {ro:Option Nat}
theorem Came.sim {σ σ':TE} {s s':St} {w w':World} {a a':Act} (c:Came P w0 σ s a w σ' s' a' w'):IZ P w0 σ' s' a' w':=⟨c.step.rel,c.d⟩
theorem Came.trans {σ σ1 σ2:TE} {s s1 s2:St} {w w1 w2:World} {a a1 a2:Act} (c:Came P w0 σ s a w σ1 s1 a1 w1) (c2:Came P w0 σ1 s1 a1 w1 σ2 s2 a2 w2):Came P w0 σ s a w σ2 s2 a2 w2:=
 ⟨c.step.trans c2.step,c2.d⟩
theorem IZ.came {σ:TE} {s:St} {w:World} {a:Act} (m:IZ P w0 σ s a w):Came P w0 σ s a w σ s a w:=⟨Step.refl m.rel,m.d⟩
def eG (t:List TV) (d:Option Nat) (v:TV):List TV:=match d with
 | some d=>t.set d v
 | none=>t
theorem WR {σ:TE} {t:List TV} {a:Act} (h:ai σ t a.tmps.toList) {v:TV} {x:Value} (hv:af σ v x) (d:Option Nat):ai σ (eG t d v) (a.put d x).tmps.toList:=by
 cases d with
 | none=>exact h
 | some d=>simpa [eG,Act.put] using h.set d hv
theorem put_defers (a:Act) (d:Option Nat) (x:Value):(a.put d x).defers=a.defers:=by cases d<;>rfl
def TV.plain:TV->Bool
 | .ow _ | .aac _ _=>false
 | _=>true
theorem aK {t:List TV} {d e:Nat} {v u:TV} (h:(t.set d v)[e]?=some u):(e=d/\u=v)\/(e≠d/\t[e]?=some u):=by
 by_cases q:d=e
 ·subst q
  left
  rw [List.getElem?_set_self'] at h
  cases e:t[d]? with
  | none=>rw [e] at h;cases h
  | some y=>rw [e] at h;injection h with h;exact⟨rfl,h.symm⟩
 ·right
  rw [List.getElem?_set_ne q] at h
  exact⟨fun x=>q x.symm,h⟩
theorem nz {a:Act} {d e:Nat} {x:Value} (h:e≠d):(a.put (some d) x).tmps[e]?=a.tmps[e]?:=by
 show(a.tmps.setIfInBounds d x)[e]?=a.tmps[e]?
 rw [Array.getElem?_setIfInBounds_ne (Ne.symm h)]
theorem gU {a:Act} {d e:Nat} {x:Value} (h:e≠d):bS (a.put (some d) x).tmps e=bS a.tmps e:=by
 unfold bS
 rw [nz h]
theorem WS {σ:TE} {g:G} {w:World} {t:List TV} {a:Act} (h:Own w0 σ g w t a.tmps) {v:TV} (hv:v.plain=true) (x:Value) (d:Option Nat):Own w0 σ g w (eG t d v) (a.put d x).tmps/\∀r,qZ (eG t d v) (a.put d x).tmps r->qZ t a.tmps r:=by
 cases d with
 | none=>exact⟨h,fun r hr=>hr⟩
 | some d=>
  refine⟨⟨fun e cs he=>?_,fun e f cs cs' he hf hr=>?_,fun e f o cs he hf=>?_⟩,fun r hr=>?_⟩
  ·rcases aK he with⟨_,q⟩ | ⟨q,he⟩
   ·subst q;cases hv
   ·rw [nz q];exact h.ow e cs he
  ·rcases aK he with⟨_,q⟩ | ⟨q,he⟩
   ·subst q;cases hv
   ·rcases aK hf with⟨_,q2⟩ | ⟨q2,hf⟩
    ·subst q2;cases hv
    ·rw [gU q,gU q2] at hr
     exact h.inj e f cs cs' he hf hr
  ·rcases aK he with⟨_,q⟩ | ⟨q,he⟩
   ·subst q;cases hv
   ·rcases aK hf with⟨_,q2⟩ | ⟨q2,hf⟩
    ·subst q2;cases hv
    ·rw [nz q,gU q2]
     exact h.at_ e f o cs he hf
  ·obtain⟨e,cs,he,hr⟩:=hr
   rcases aK he with⟨_,q⟩ | ⟨q,he⟩
   ·subst q;cases hv
   ·rw [gU q] at hr
    exact⟨e,cs,he,hr⟩
theorem Step.post {σ σ':TE} {g g':G} {t:List TV} {a:Act} {w w':World} (h:Rel P w0 σ g t a.tmps w) (p:aJ P w0 σ g w σ' g' w') {v:TV} {x:Value} (hv:v.plain=true) (hx:af σ' v x) (d:Option Nat):Step P w0 σ g t a.tmps w σ' g' (eG t d v) (a.put d x).tmps w':=by
 obtain⟨o1,o2⟩:=WS (h.own.post p) hv x d
 exact⟨⟨WR (ai.ext p.ext _ _ h.tl) hx d,o1,p.rel⟩,p.ext,p.size,fun r hr h1 h2 h3=>by
  obtain⟨q1,q2,q3⟩:=p.frame r hr h1 h2
  exact⟨q1,q2,q3,fun h=>h3 (o2 r h)⟩⟩
abbrev qX (ro:Option Nat):Fence:={Fence.wide with round:=ro}
@[irreducible] def TA (P:Program) (w0:World) (ro:Option Nat) (c:Code) (Q:Exit->St->Prop) (s:St):Prop:=
 ∀σ a w,IZ P w0 σ s a w->c.wpIn (qX ro) 0 P (fun e a' w'=>∃s' σ',Q e s'/\Came P w0 σ s a w σ' s' a' w') a w
@[irreducible] def av (P:Program) (w0:World) (f:FuncId) (args:List TV) (g:G) (Q:TV->G->Prop):Prop:=
 ∀σ w vs,ai σ args vs.toList->TW P w0 σ g w->CallsIn Fence.wide 0 P f vs w fun e w'=>∃v r g' σ',e= .returned v/\Q r g'/\aJ P w0 σ g w σ' g' w'/\af σ' r v
theorem TA.of {c:Code} {Q:Exit->St->Prop} {s:St} (h:∀σ a w,IZ P w0 σ s a w->c.wpIn (qX ro) 0 P (fun e a' w'=>∃s' σ',Q e s'/\Came P w0 σ s a w σ' s' a' w') a w):TA P w0 ro c Q s:=by unfold TA;exact h
theorem TA.get {c:Code} {Q:Exit->St->Prop} {s:St} (h:TA P w0 ro c Q s):∀σ a w,IZ P w0 σ s a w->c.wpIn (qX ro) 0 P (fun e a' w'=>∃s' σ',Q e s'/\Came P w0 σ s a w σ' s' a' w') a w:=by unfold TA at h;exact h
theorem av.of {f:FuncId} {args:List TV} {g:G} {Q:TV->G->Prop} (h:∀σ w vs,ai σ args vs.toList->TW P w0 σ g w->CallsIn Fence.wide 0 P f vs w fun e w'=>∃v r g' σ',e= .returned v/\Q r g'/\aJ P w0 σ g w σ' g' w'/\af σ' r v):av P w0 f args g Q:=by unfold av;exact h
theorem av.get {f:FuncId} {args:List TV} {g:G} {Q:TV->G->Prop} (h:av P w0 f args g Q):∀σ w vs,ai σ args vs.toList->TW P w0 σ g w->CallsIn Fence.wide 0 P f vs w fun e w'=>∃v r g' σ',e= .returned v/\Q r g'/\aJ P w0 σ g w σ' g' w'/\af σ' r v:=by unfold av at h;exact h
theorem TA.mono {c:Code} {Q Q':Exit->St->Prop} {s:St} (h:TA P w0 ro c Q s) (hq:∀e s',Q e s'->Q' e s'):TA P w0 ro c Q' s:=by
 exact .of fun σ a w m=>wpIn_mono (h.get σ a w m) fun e a' w' ⟨s',σ',q,c⟩=>⟨s',σ',hq e s' q,c⟩
theorem av.mono {f:FuncId} {args:List TV} {g:G} {Q Q':TV->G->Prop} (h:av P w0 f args g Q) (hq:∀r g',Q r g'->Q' r g'):av P w0 f args g Q':=by
 exact .of fun σ w vs h1 h2=>CallsIn.mono (h.get σ w vs h1 h2) fun e w' ⟨v,r,g',σ',h1,h2,h3⟩=>⟨v,r,g',σ',h1,hq _ _ h2,h3⟩
theorem TA.behind {c:Code} {Q:Exit->St->Prop} {s s1:St} {σ σ1:TE} {w w1:World} {a a1:Act} (h:TA P w0 ro c Q s1) (k:Came P w0 σ s a w σ1 s1 a1 w1):
  c.wpIn (qX ro) 0 P (fun e a' w'=>∃s' σ',Q e s'/\Came P w0 σ s a w σ' s' a' w') a1 w1:=by
 exact wpIn_mono (h.get σ1 a1 w1 k.sim) fun e a' w' ⟨s',σ',q,k'⟩=>⟨s',σ',q,k.trans k'⟩
def thenS (K:St->Prop) (Q:Exit->St->Prop):Exit->St->Prop
 | .normal,s=>K s
 | e,s=>Q e s
theorem TA.skip {Q:Exit->St->Prop} {s:St} (h:Q .normal s):TA P w0 ro .skip Q s:= .of <| fun σ a w m=>wpIn_skip ⟨s,σ,h,m.came⟩
theorem TA.label {Q:Exit->St->Prop} {s:St} {l:Nat} (h:Q .normal s):TA P w0 ro (.label l) Q s:= .of <| fun σ a w m=>wpIn_label ⟨s,σ,h,m.came⟩
theorem TA.ret {Q:Exit->St->Prop} {s:St} (h:Q .ret s):TA P w0 ro .ret Q s:= .of <| fun σ a w m=>wpIn_ret ⟨s,σ,h,m.came⟩
theorem TA.exit {Q:Exit->St->Prop} {s:St} {i:Nat} (h:Q (.exit i) s):TA P w0 ro (.exit i) Q s:= .of <| fun σ a w m=>wpIn_exit ⟨s,σ,h,m.came⟩
theorem TA.seq {x y:Code} {Q:Exit->St->Prop} {s:St} (h:TA P w0 ro x (thenS (TA P w0 ro y Q) Q) s):TA P w0 ro (.seq x y) Q s:=by
 refine .of fun σ a w m=>?_
 refine wpIn_seq (wpIn_mono (h.get σ a w m) fun e a' w' ⟨s',σ',q,k⟩=>?_)
 cases e with
 | normal=>exact TA.behind q k
 | _=>exact⟨s',σ',q,k⟩
def ik (id:Nat) (Q:Exit->St->Prop):Exit->St->Prop
 | .exit id',s=>if id'=id then Q .normal s else Q (.exit id') s
 | e,s=>Q e s
theorem TA.block {id:Nat} {x:Code} {Q:Exit->St->Prop} {s:St} (h:TA P w0 ro x (ik id Q) s):TA P w0 ro (.block id x) Q s:=by
 refine .of fun σ a w m=>?_
 refine wpIn_block (wpIn_mono (h.get σ a w m) fun e a' w' ⟨s',σ',q,k⟩=>?_)
 cases e with
 | exit i=>
  by_cases hi:i=id
  ·simp only [ik,Exit.inBlock,hi,if_true] at q ⊢;exact⟨s',σ',q,k⟩
  ·simp only [ik,Exit.inBlock,hi,if_false] at q ⊢;exact⟨s',σ',q,k⟩
 | _=>exact⟨s',σ',q,k⟩
def Fa (Q:Exit->St->Prop):Exit->St->Prop
 | .goto _,_=>False
 | e,s=>Q e s
theorem TA.scope {x:Code} {Q:Exit->St->Prop} {s:St} (h:TA P w0 ro x (Fa Q) s):TA P w0 ro (.scope x) Q s:=by
 refine .of fun σ a w m=>?_
 refine kQ (wpIn_mono (h.get σ a w m) fun e a' w' ⟨s',σ',q,k⟩=>?_)
 cases e with
 | goto l=>exact q.elim
 | _=>exact⟨s',σ',q,k⟩
theorem TA.loop {x:Code} {Q:Exit->St->Prop} {s:St} (I:Nat->St->Prop) {n0:Nat} (h0:I n0 s) (hN:∀n s',I n s'->TA P w0 ro x (thenS (fun s2=>∃n2,n2 < n/\I n2 s2) Q) s'):TA P w0 ro (.loop x) Q s:=by
 refine .of fun σ a w m=>?_
 intro b k cs hro hb hr
 have key:∀n s1 σ1 a1 w1,I n s1->Came P w0 σ s a w σ1 s1 a1 w1->∃e a' w',(∃s' σ',Q e s'/\Came P w0 σ s a w σ' s' a' w')/\ArrivesIn (Machine.fenced P (qX ro)) P (lone (b.atR a1 (.code x:: .inLoop x::k)) cs w1) b k cs e a' w':=by
  intro n
  induction n using Nat.strongRecOn with
  | _ n ih=>
   intro s1 σ1 a1 w1 hI hc
   obtain⟨e,a2,w2,⟨s2,σ2,hq,hk⟩,harr⟩:=TA.behind (hN n s1 hI) hc b (.inLoop x::k) cs hro hb hr
   cases e with
   | normal=>
    obtain⟨n2,hlt,hI2⟩:=hq
    obtain⟨e3,a3,w3,hq3,JR⟩:=ih n2 hlt s2 σ2 a2 w2 hI2 hk
    exact⟨e3,a3,w3,hq3, .of_steps (StepsIn.trans harr (.one (fenced_calm hb hr rfl) stepR_inLoop)) JR⟩
   | exit id=>exact⟨_,a2,w2,⟨s2,σ2,hq,hk⟩, .pass (x:= .inLoop x) rfl (fun _ _=> .inl (by simp)) harr⟩
   | goto l=>exact⟨_,a2,w2,⟨s2,σ2,hq,hk⟩, .pass (x:= .inLoop x) rfl (fun _ _=> .inl (by simp)) harr⟩
   | ret=>exact⟨_,a2,w2,⟨s2,σ2,hq,hk⟩, .pass (x:= .inLoop x) rfl (fun _ _=> .inl (by simp)) harr⟩
   | panic ch=>exact⟨_,a2,w2,⟨s2,σ2,hq,hk⟩, .pass (x:= .inLoop x) rfl (fun _ _=> .inl (by simp)) harr⟩
   | outgrown=>exact⟨_,a2,w2,⟨s2,σ2,hq,hk⟩, .pass (x:= .inLoop x) rfl (fun _ _=> .inl (by simp)) harr⟩
 obtain⟨e,a',w',hq,harr⟩:=key n0 s σ a w h0 m.came
 exact⟨e,a',w',hq, .of_steps (.one (fenced_calm hb hr rfl) stepR_loop) harr⟩
def TV.gL:Value->TV
 | .bool x=> .b (some x)
 | .int k n=> .i k (some n)
 | .float .f64 x=>if x < 18446744073709551616 then .f else .bg
 | .pointer none=> .pn
 | .slice none 0 0=> .val (.slice none 0 0)
 | .nilFunc=> .bD
 | .func (.func q) ⟨[]⟩ ⟨[]⟩=> .fn q [] []
 | v=> .val v
def TV.eX:Value->TV
 | .agg cs=> .agg (cs.toList.map TV.gL)
 | v=>TV.gL v
noncomputable def slot (l:List TV):Nat->TV:=List.rec (fun _=> .bg) (fun a _ ih d=>Nat.rec a (fun d _=>ih d) d) l
theorem dR:∀(l:List TV) (d:Nat),slot l d=l.getD d .bg
 | [],d=>rfl
 | a::r,0=>rfl
 | a::r,d+1=>dR r d
noncomputable def ev (t:List TV):Operand->TV
 | .tmp i=>slot t i
 | .const v=> .eX v
 | .global _=> .bg
 | .func f=> .fn f [] []
theorem ig {σ:TE} (v:Value):af σ (TV.gL v) v:=by
 unfold TV.gL
 split<;>try simp only [af]
 ·split
  ·rename_i x h
   simp only [af];exact⟨x,rfl,h⟩
  ·simp only [af]
 ·exact⟨#[],#[],rfl,by simp [ai],by simp [ai]⟩
theorem vw {σ:TE} (v:Value):af σ (TV.eX v) v:=by
 unfold TV.eX
 split
 ·rename_i cs
  refine⟨cs,rfl,?_⟩
  have:∀l:List Value,ai σ (l.map TV.gL) l:=fun l=>by
   induction l with
   | nil=>simp [ai]
   | cons v l ih=>exact⟨v,l,rfl,ig v,ih⟩
  exact this _
 ·exact ig v
theorem aN {σ:TE} {t:List TV} {a:Act} (ht:ai σ t a.tmps.toList) (x:Operand):af σ (ev t x) (a.eval x):=by
 cases x with
 | tmp i=>
  show af σ (slot t i) (a.tmps.getD i undef)
  rw [dR]
  have:=ht.getD i undef
  simpa using this
 | const v=>exact vw v
 | global _=>simp [ev,af]
 | func f=>exact⟨#[],#[],rfl,by simp [ai],by simp [ai]⟩
theorem nu {σ:TE} {t:List TV} {a:Act} (ht:ai σ t a.tmps.toList):∀(l:List Operand),ai σ (l.map (ev t)) (l.map a.eval)
 | []=>by simp [ai]
 | x::l=>⟨_,_,rfl,aN ht x,nu ht l⟩
abbrev TV.un:TV:= .aF []
theorem fI {σ:TE}:af σ .un undef:=⟨#[],rfl,by simp [ai]⟩
def TV.holds:TV->Bool->Prop
 | .b none,_=>True
 | .b (some z),x=>x=z
 | .bp q,true=>q
 | .bp q,false=>¬q
 | _,_=>False
def TV.Pm:TV->Bool
 | .b _ | .bp _=>true
 | _=>false
theorem il {σ:TE} {z:TV} {v:Value} (h:af σ z v) (hz:z.Pm=true):∃b,v= .bool b/\z.holds b:=by
 cases z with
 | b x=>
  cases x with
  | none=>simp only [af] at h;obtain⟨b,hb⟩:=h;exact⟨b,hb,trivial⟩
  | some b=>simp only [af] at h;exact⟨b,h,rfl⟩
 | bp p=>
  simp only [af] at h
  obtain⟨b,hb,hp⟩:=h
  refine⟨b,hb,?_⟩
  cases b with
  | true=>exact hp.1 rfl
  | false=>exact fun q=>by have:=hp.2 q;cases this
 | _=>cases hz
theorem TA.cond {c:Operand} {x y:Code} {Q:Exit->St->Prop} {s:St} (hc:(ev s.t c).Pm=true) (ht:(ev s.t c).holds true->TA P w0 ro x Q s) (hf:(ev s.t c).holds false->TA P w0 ro y Q s):TA P w0 ro (.cond c x y) Q s:=by
 refine .of fun σ a w m=>?_
 obtain⟨b,hb,hz⟩:=il (aN m.rel.tl c) hc
 refine wpIn_cond hb ?_
 cases b with
 | true=>exact TA.get (ht hz) σ a w m
 | false=>exact TA.get (hf hz) σ a w m
@[irreducible] def iL (P:Program) (w0:World) (ro:Option Nat) (o:Oper) (t:List TV) (g:G) (K:List TV->G->Prop):Prop:=
 ∀σ a w,Rel P w0 σ g t a.tmps w->∀(next:Act->World->Prop) (Q:Exit->Act->World->Prop),
  (∀t' g' σ' w' x,K t' g'->Step P w0 σ g t a.tmps w σ' g' t' (a.put o.dst x).tmps w'->next (a.put o.dst x) w')->o.wpIn (qX ro) 0 P a w next Q
theorem iL.of {o:Oper} {t:List TV} {g:G} {K:List TV->G->Prop} (h:∀σ a w,Rel P w0 σ g t a.tmps w->∀(next:Act->World->Prop) (Q:Exit->Act->World->Prop),
  (∀t' g' σ' w' x,K t' g'->Step P w0 σ g t a.tmps w σ' g' t' (a.put o.dst x).tmps w'->next (a.put o.dst x) w')->o.wpIn (qX ro) 0 P a w next Q):iL P w0 ro o t g K:=by unfold iL;exact h
theorem iL.get {o:Oper} {t:List TV} {g:G} {K:List TV->G->Prop} (h:iL P w0 ro o t g K):∀σ a w,Rel P w0 σ g t a.tmps w->∀(next:Act->World->Prop) (Q:Exit->Act->World->Prop),
  (∀t' g' σ' w' x,K t' g'->Step P w0 σ g t a.tmps w σ' g' t' (a.put o.dst x).tmps w'->next (a.put o.dst x) w')->o.wpIn (qX ro) 0 P a w next Q:=by unfold iL at h;exact h
theorem iL.mono {o:Oper} {t:List TV} {g:G} {K K':List TV->G->Prop} (h:iL P w0 ro o t g K) (hk:∀v g,K v g->K' v g):iL P w0 ro o t g K':=
 .of fun σ a w r next Q hn=>h.get σ a w r next Q fun v g' σ' w' x hv=>hn v g' σ' w' x (hk _ _ hv)
def TV.zL:TV->TV
 | .ow _=> .bg
 | .aac _ _=> .bg
 | v=>v
theorem lJ {σ:TE} {v:TV} {x:Value} (h:af σ v x):af σ v.zL x:=by
 cases v<;>first | exact h | (simp only [TV.zL,af])
noncomputable def dw (t:List TV) (x:Operand):TV:=(ev t x).zL
theorem aC {σ:TE} {t:List TV} {a:Act} (ht:ai σ t a.tmps.toList) (x:Operand):af σ (dw t x) (a.eval x):=lJ (aN ht x)
theorem oV {σ:TE} {t:List TV} {a:Act} (ht:ai σ t a.tmps.toList):∀(l:List Operand),ai σ (l.map (dw t)) (l.map a.eval)
 | []=>by simp [ai]
 | x::l=>⟨_,_,rfl,aC ht x,oV ht l⟩
theorem sN {σ:TE} {t:List TV} {a:Act} (ht:ai σ t a.tmps.toList) {fs cs:List TV} {vs us:Array Value} (hf:ai σ fs vs.toList) (hc:ai σ cs us.toList) (args:Array Operand):
  ai σ (fs++args.toList.map (dw t)++cs) ((vs++args.map a.eval)++us).toList:=by
 have:=(hf.append (oV ht args.toList)).append hc
 simpa using this
theorem iL.call {o:Oper} {t:List TV} {s:G} {K:List TV->G->Prop} {K':TV->G->Prop} {g:Operand} {args:Array Operand} {ts:Array TypeId} {f:FuncId} {fs cs:List TV} (ho:o.op= .call {callee:= .value g,args,argTypes:=ts})
  (hg:ev t g= .fn f fs cs) (hgo:Goes P f) (h:av P w0 f (fs++args.toList.map (dw t)++cs) s K') (hk:∀v g,K' v g->K (eG t o.dst v.zL) g):iL P w0 ro o t s K:=by
 refine .of fun σ a w r next Q hn=>?_
 have hv:=aN r.tl g
 rw [hg] at hv
 simp only [af] at hv
 obtain⟨vs,us,hv,hf,hc⟩:=hv
 refine⟨fun _ _=>trivial,?_⟩
 rw [Oper.semAt_eq _ _ _ (fun q hq=>by rw [ho] at hq;cases hq),oM ho hv]
 rw [show(invoke (.fn (.func f) us) (vs++args.map a.eval)).run P w= .ok (.enter f ((vs++args.map a.eval)++us)) w from hgo _ w]
 refine⟨by simp [Fence.wide],?_⟩
 refine CallsIn.mono (R:=fun e w'=>∃v r g' σ',e= .returned v/\K' r g'/\aJ P w0 σ s w σ' g' w'/\af σ' r v) (h.get σ w _ (sN r.tl hf hc args) r.tw) ?_
 rintro e w' ⟨v,q,g',σ',rfl,hq,hp,hr⟩
 exact hn _ g' σ' w' v (hk _ _ hq) (Step.post r hp (by cases q<;>rfl) (lJ hr) o.dst)
end
end Go.TM
namespace Go.TM
open Go Go.RowKit Go.AM
section
variable {P:Program} {w0:World} {ro:Option Nat}
def dO (P:Program) (w0:World) (σ:TE) (g:G) (w:World) (s:Sem Next) (v:TV):Prop:=
 ∃x w' σ',s.run P w= .ok x w'/\aJ P w0 σ g w σ' g w'/\((∃y,x= .value y/\af σ' v y)\/(x= .skip/\v= .un))
theorem iL.plain {o:Oper} {t:List TV} {g:G} {K:List TV->G->Prop} {v:TV} (hd:∀c,o.op≠ .defer c) (hv:v.plain=true) (h:∀(σ:TE) (a:Act) (w:World),Rel P w0 σ g t a.tmps w->dO P w0 σ g w (execOp a.eval o) v) (hk:K (eG t o.dst v) g):iL P w0 ro o t g K:=by
 refine .of fun σ a w r next Q hn=>?_
 refine⟨fun _ _=>trivial,?_⟩
 rw [Oper.semAt_eq _ _ _ hd]
 obtain⟨x,w',σ',hrun,hp,hx⟩:=h σ a w r
 rw [hrun]
 rcases hx with⟨y,rfl,hr⟩ | ⟨rfl,rfl⟩
 ·exact hn _ _ σ' w' y hk (Step.post r hp hv hr o.dst)
 ·exact hn _ _ σ' w' undef hk (Step.post r hp rfl fI o.dst)
theorem iL.ext {o:Oper} {t:List TV} {s:G} {K:List TV->G->Prop} {g:Operand} {args:Array Operand} {ts:Array TypeId} {f:FuncId} {fs cs:List TV} {x:XK} {v:TV} (ho:o.op= .call {callee:= .value g,args,argTypes:=ts})
  (hg:ev t g= .fn f fs cs) (hx:C8 P f x) (h:∀(σ:TE) (w:World) (vs:Array Value),ai σ (fs++args.toList.map (dw t)++cs) vs.toList->∃y,af σ v y/\((x.WE vs).run P w= .ok y w\/(x.WE vs).run P w= .ok y w.drew)) (hv:v.plain=true) (hk:K (eG t o.dst v) s):iL P w0 ro o t s K:=by
 refine .of fun σ a w r next Q hn=>?_
 have hv':=aN r.tl g
 rw [hg] at hv'
 simp only [af] at hv'
 obtain⟨vs,us,hv',hf,hc⟩:=hv'
 refine⟨fun _ _=>trivial,?_⟩
 rw [Oper.semAt_eq _ _ _ (fun q hq=>by rw [ho] at hq;cases hq),oM ho hv']
 obtain⟨y,hy,hrun⟩:=h σ w _ (sN r.tl hf hc args)
 rcases hrun with hrun | hrun
 ·rw [show(invoke (.fn (.func f) us) (vs++args.map a.eval))=callFunc f ((vs++args.map a.eval)++us) from rfl,KZ hx hrun]
  exact hn _ _ σ w y hk (Step.post r (aJ.refl r.tw) hv hy o.dst)
 ·rw [show(invoke (.fn (.func f) us) (vs++args.map a.eval))=callFunc f ((vs++args.map a.eval)++us) from rfl,KZ hx hrun]
  exact hn _ _ σ w.drew y hk (Step.post r (aJ.drew r.tw) hv hy o.dst)
def aV (d:Nat) (t:List TV):List TV:=t.map fun v=>match v with
 | .aac e o=>if Nat.beq e d then .bg else .aac e o
 | v=>v
theorem F6 {σ:TE} {d:Nat}:∀{t:List TV} {vs:List Value},ai σ t vs->ai σ (aV d t) vs
 | [],vs,h=>h
 | v::t,vs,h=>by
  simp only [ai] at h
  obtain⟨x,r,rfl,h1,h2⟩:=h
  refine⟨x,r,rfl,?_,F6 h2⟩
  cases v<;>first | exact h1 | (simp only;split<;>simp only [af])
theorem jP {d e:Nat} {t:List TV} {cs:List TV} (h:(aV d t)[e]?=some (.ow cs)):t[e]?=some (.ow cs):=by
 unfold aV at h
 rw [List.getElem?_map] at h
 cases q:t[e]? with
 | none=>rw [q] at h;cases h
 | some v=>
  rw [q] at h
  cases v<;>simp only [Option.map_some,Option.some.injEq] at h<;>first | exact h▸rfl | (split at h<;>cases h) | cases h
theorem SK {d e f o:Nat} {t:List TV} (h:(aV d t)[e]?=some (.aac f o)):f≠d/\t[e]?=some (.aac f o):=by
 unfold aV at h
 rw [List.getElem?_map] at h
 cases q:t[e]? with
 | none=>rw [q] at h;cases h
 | some v=>
  rw [q] at h
  cases v<;>simp only [Option.map_some,Option.some.injEq] at h<;>first | cases h | skip
  rename_i a b
  split at h
  ·cases h
  ·rename_i hne
   injection h with h1 h2
   subst h1;subst h2
   exact⟨fun x=>hne (by subst x;exact Nat.beq_refl _),rfl⟩
theorem iL.new {o:Oper} {t:List TV} {g:G} {K:List TV->G->Prop} {cs:List TV} {d:Nat} (hd:∀c,o.op≠ .defer c) (hdst:o.dst=some d) (h:∀(σ:TE) (a:Act) (w:World),Rel P w0 σ g t a.tmps w->∃C e,(execOp a.eval o).run P w= .ok (.value (.pointer (some ⟨w.heap.size,0,none⟩))) (w.alloc (.cells C e (0,0)))/\ai σ cs C.toList)
  (hk:K ((aV d t).set d (.ow cs)) g):iL P w0 ro o t g K:=by
 refine .of fun σ a w r next Q hn=>?_
 refine⟨fun _ _=>trivial,?_⟩
 rw [Oper.semAt_eq _ _ _ hd]
 obtain⟨C,ty,hrun,hc⟩:=h σ a w r
 rw [hrun]
 refine hn _ g σ _ _ hk ?_
 rw [hdst]
 have p:=aJ.raw r.tw (.cells C ty (0,0))
 have ho:=r.own.post p
 have hnew:(w.alloc (.cells C ty (0,0))).heap[w.heap.size]?=some (.cells C ty (0,0)):=by show(w.heap.push _)[w.heap.size]?=_;simp
 obtain⟨f1,f2⟩:=r.tw.free
 have hself:∀x,((a.put (some d) x).tmps)[d]?=if d < a.tmps.size then some x else none:=fun x=>by
  show(a.tmps.setIfInBounds d x)[d]?=_
  simp [Array.getElem?_setIfInBounds]
 have hlen:∀{e:Nat} {u:TV},((aV d t).set d (.ow cs))[e]?=some u->e < a.tmps.size:=fun {e u} he=>by
  have:=(List.getElem?_eq_some_iff.1 he).1
  have hl:=r.tl.length
  simp [aV] at this
  simp at hl
  omega
 have hlt:∀{e:Nat} {u:List TV},t[e]?=some (.ow u)->bS a.tmps e < w.heap.size:=fun h=>r.own.lt h
 refine⟨⟨?_,⟨fun e cs' he=>?_,fun e f c1 c2 he hf hr=>?_,fun e f o' c he hf=>?_⟩,p.rel⟩,p.ext,p.size,fun k hk h1 h2 h3=>?_⟩
 ·have:=(F6 (d:=d) r.tl).set d (a:= .ow cs) (v:= .pointer (some ⟨w.heap.size,0,none⟩)) (by simp only [af])
  simpa [Act.put] using this
 ·have hl:=hlen he
  rcases aK he with⟨rfl,q⟩ | ⟨q,he⟩
  ·injection q with q;subst q
   exact⟨w.heap.size,by rw [hself,if_pos hl],f1,f2,r.tw.below.size,C,ty,hnew,hc⟩
  ·obtain⟨r0,q1,q2⟩:=ho.ow e cs' (jP he)
   exact⟨r0,by rw [nz q];exact q1,q2⟩
 ·have hle:=hlen he
  have hlf:=hlen hf
  rcases aK he with⟨rfl,q⟩ | ⟨q,he⟩<;>rcases aK hf with⟨rfl,q2⟩ | ⟨q2,hf⟩
  ·rfl
  ·rw [gU q2,bP (by rw [hself,if_pos hle])] at hr
   have:=hlt (jP hf);omega
  ·rw [gU q,bP (tm:=(a.put _ _).tmps) (by rw [hself,if_pos hlf])] at hr
   have:=hlt (jP he);omega
  ·rw [gU q,gU q2] at hr
   exact r.own.inj e f c1 c2 (jP he) (jP hf) hr
 ·rcases aK he with⟨rfl,q⟩ | ⟨q,he⟩
  ·cases q
  ·obtain⟨q1,q2⟩:=SK he
   rcases aK hf with⟨rfl,q3⟩ | ⟨q3,hf⟩
   ·exact absurd rfl q1
   ·rw [nz q,gU q3]
    exact r.own.at_ e f o' c q2 (jP hf)
 ·obtain⟨q1,q2,q3⟩:=p.frame k hk h1 h2
  refine⟨q1,q2,q3,fun⟨e,c,he,hr⟩=>?_⟩
  have hl:=hlen he
  rcases aK he with⟨rfl,q⟩ | ⟨q,he⟩
  ·rw [bP (by rw [hself,if_pos hl])] at hr;omega
  ·rw [gU q] at hr
   exact h3 ⟨e,c,jP he,hr⟩
theorem iL.stow {o:Oper} {t:List TV} {g:G} {K:List TV->G->Prop} {cs cs':List TV} {d:Nat} (hd:∀c,o.op≠ .defer c) (hdst:o.dst=none) (ht:t[d]?=some (.ow cs)) (h:∀(σ:TE) (a:Act) (w:World) (C:Array Value) (e:TypeId),Rel P w0 σ g t a.tmps w->w.heap[bS a.tmps d]?=some (.cells C e (0,0))->ai σ cs C.toList->
  ∃C' w',(execOp a.eval o).run P w= .ok .skip w'/\w'.heap.size=w.heap.size/\(∀k,k≠bS a.tmps d->w'.heap[k]?=w.heap[k]?)/\w'.heap[bS a.tmps d]?=some (.cells C' e (0,0))/\w'.os=w.os/\w'.tape=w.tape/\w'.output=w.output/\ai σ cs' C'.toList)
  (hk:K (t.set d (.ow cs')) g):iL P w0 ro o t g K:=by
 refine .of fun σ a w r next Q hn=>?_
 refine⟨fun _ _=>trivial,?_⟩
 rw [Oper.semAt_eq _ _ _ hd]
 obtain⟨r0,h1,h2,h3,h4,C,e,h5,h6⟩:=r.own.ow d cs ht
 have hr0:=bP h1
 subst hr0
 obtain⟨C',w',hrun,hs,he,hO,k1,k2,k3,hc⟩:=h σ a w C e r h5 h6
 rw [hrun]
 refine hn _ g σ _ undef hk ?_
 rw [hdst]
 show Step P w0 σ g t a.tmps w σ g (t.set d (.ow cs')) a.tmps w'
 have htw:=r.tw.other (bS a.tmps d) h4 h2 h3 hs he k1 k2 k3
 have hle:∀{f:Nat} {c:List TV},(t.set d (.ow cs'))[f]?=some (.ow c)->∃c0,t[f]?=some (.ow c0)/\(f≠d->c0=c):=fun {f c} hf=>by
  rcases aK hf with⟨rfl,q⟩ | ⟨q,hf⟩
  ·exact⟨cs,ht,fun h=>absurd rfl h⟩
  ·exact⟨c,hf,fun _=>rfl⟩
 refine⟨⟨?_,⟨fun f c hf=>?_,fun e f c1 c2 he hf hr=>?_,fun e f o' c he hf=>?_⟩,htw⟩, .refl _,by omega,fun k hk q1 q2 q3=>?_⟩
 ·have hl:=r.tl.set d (a:= .ow cs') (v:= .pointer (some ⟨bS a.tmps d,0,none⟩)) (by simp only [af])
  have e2:a.tmps.toList.set d (.pointer (some ⟨bS a.tmps d,0,none⟩))=a.tmps.toList:=by
   have hx':a.tmps.toList[d]?=some (.pointer (some ⟨bS a.tmps d,0,none⟩)):=by rw [Array.getElem?_toList];exact h1
   apply List.ext_getElem?
   intro i
   by_cases h:d=i
   ·subst h
    rw [List.getElem?_set_self (List.getElem?_eq_some_iff.1 hx').1,hx']
   ·rw [List.getElem?_set_ne h]
  rwa [e2] at hl
 ·rcases aK hf with⟨rfl,q⟩ | ⟨q,hf⟩
  ·injection q with q;subst q
   exact⟨_,h1,h2,h3,h4,C',e,hO,hc⟩
  ·obtain⟨r1,m1,m2,m3,m4,C1,e1,m5,m6⟩:=r.own.ow f c hf
   refine⟨r1,m1,m2,m3,m4,C1,e1,?_,m6⟩
   rw [he r1 (fun x=>q (r.own.inj f d c cs hf ht (by rw [bP m1,x])))]
   exact m5
 ·obtain⟨c1',he',_⟩:=hle he
  obtain⟨c2',hf',_⟩:=hle hf
  exact r.own.inj e f c1' c2' he' hf' hr
 ·rcases aK he with⟨rfl,q⟩ | ⟨q,he⟩
  ·cases q
  ·obtain⟨c',hf',_⟩:=hle hf
   exact r.own.at_ e f o' c' he hf'
 ·refine⟨he k (fun x=>q3 ⟨d,cs,ht,x.symm⟩),q1,q2,fun⟨f,c,hf,hr⟩=>?_⟩
  obtain⟨c',hf',_⟩:=hle hf
  exact q3 ⟨f,c',hf',hr⟩
inductive GS where
 | yes
 | no
 | may (d:Nat) (want:Bool)
 | bad
noncomputable def dG (ops:List Oper) (t:List TV) (o:Oper):GS:=match o.guard with
 | none=> .yes
 | some (j,want)=>match ops[j]? with
  | none=> .bad
  | some q=>match q.dst with
   | none=> .bad
   | some d=>match slot t d with
    | .b (some b)=>match b,want with
     | true,true=> .yes
     | false,false=> .yes
     | _,_=> .no
    | .aF _=> .no
    | .b none=> .may d want
    | .bp _=> .may d want
    | _=> .bad
theorem dS {σ:TE} {ops:Array Oper} {t:List TV} {a:Act} (ht:ai σ t a.tmps.toList) {o:Oper}:match dG ops.toList t o with
  | .yes=>Region.wanted o (yielded ops a.tmps)=true
  | .no=>Region.wanted o (yielded ops a.tmps)=false
  | .may d want=>∃b:Bool,a.tmps[d]?=some (.bool b)/\(slot t d).holds b/\Region.wanted o (yielded ops a.tmps)=(b==want)
  | .bad=>True:=by
 unfold dG Region.wanted
 cases hg:o.guard with
 | none=>rfl
 | some q=>
  obtain⟨j,want⟩:=q
  simp only
  cases hj:ops.toList[j]? with
  | none=>trivial
  | some q=>
   simp only
   cases hd:q.dst with
   | none=>trivial
   | some d=>
    simp only
    have hs:af σ (slot t d) (a.tmps.getD d undef):=aN ht (.tmp d)
    have hy:yielded ops a.tmps j=(a.tmps[d]?).bind fun | .bool b=>some b | _=>none:=by
     unfold yielded
     rw [Array.getElem?_toList] at hj
     rw [hj]
     simp only [Option.bind_some,hd]
     cases a.tmps[d]? with
     | none=>rfl
     | some v=>cases v<;>rfl
    have key:∀b:Bool,a.tmps.getD d undef= .bool b->a.tmps[d]?=some (.bool b)/\yielded ops a.tmps j=some b:=fun b hb=>by
     have:a.tmps[d]?=some (.bool b):=by
      cases e:a.tmps[d]? with
      | none=>simp [Array.getD_eq_getD_getElem?,e,undef] at hb
      | some v=>simpa [Array.getD_eq_getD_getElem?,e] using hb
     refine⟨this,?_⟩
     rw [hy,this];rfl
    cases hv:slot t d with
    | b x=>
     rw [hv] at hs
     cases x with
     | none=>
      simp only
      obtain⟨b,hb,hz⟩:=il hs rfl
      refine⟨b,(key b hb).1,by rw [hv];exact hz,?_⟩
      rw [(key b hb).2];cases b<;>cases want<;>rfl
     | some b=>
      simp only [af] at hs
      have:=(key b hs).2
      cases b<;>cases want<;>simp only [this]<;>rfl
    | bp p=>
     rw [hv] at hs
     simp only
     obtain⟨b,hb,hz⟩:=il hs rfl
     refine⟨b,(key b hb).1,by rw [hv];exact hz,?_⟩
     rw [(key b hb).2];cases b<;>cases want<;>rfl
    | aF vs=>
     rw [hv] at hs
     simp only [af] at hs
     obtain⟨us,hs,_⟩:=hs
     simp only
     rw [hy]
     cases e:a.tmps[d]? with
     | none=>rfl
     | some v=>
      have:v= .tuple us:=by simpa [Array.getD_eq_getD_getElem?,e] using hs
      rw [this];rfl
    | _=>trivial
def aQ (P:Program) (w0:World) (ro:Option Nat) (ops:List Oper) (Q:List TV->G->Prop):List Oper->List TV->G->Prop
 | [],t,g=>Q t g
 | o::l,t,g=>match dG ops t o with
  | .yes=>iL P w0 ro o t g fun t g=>aQ P w0 ro ops Q l t g
  | .no=>aQ P w0 ro ops Q l (eG t o.dst .un) g
  | .may d want=>
   ((slot t d).holds want->iL P w0 ro o (t.set d (.b (some want))) g fun t g=>aQ P w0 ro ops Q l t g)/\
   ((slot t d).holds (!want)->aQ P w0 ro ops Q l (eG (t.set d (.b (some (!want)))) o.dst .un) g)
  | .bad=>False
theorem WT {σ:TE} {g:G} {w:World} {t:List TV} {tm:Array Value} (h:Own w0 σ g w t tm) {v:TV} (hv:v.plain=true) (d:Nat):Own w0 σ g w (t.set d v) tm/\∀r,qZ (t.set d v) tm r->qZ t tm r:=by
 refine⟨⟨fun e cs he=>?_,fun e f cs cs' he hf hr=>?_,fun e f o cs he hf=>?_⟩,fun r hr=>?_⟩
 ·rcases aK he with⟨_,q⟩ | ⟨q,he⟩
  ·subst q;cases hv
  ·exact h.ow e cs he
 ·rcases aK he with⟨_,q⟩ | ⟨q,he⟩
  ·subst q;cases hv
  ·rcases aK hf with⟨_,q2⟩ | ⟨q2,hf⟩
   ·subst q2;cases hv
   ·exact h.inj e f cs cs' he hf hr
 ·rcases aK he with⟨_,q⟩ | ⟨q,he⟩
  ·subst q;cases hv
  ·rcases aK hf with⟨_,q2⟩ | ⟨q2,hf⟩
   ·subst q2;cases hv
   ·exact h.at_ e f o cs he hf
 ·obtain⟨e,cs,he,hr⟩:=hr
  rcases aK he with⟨_,q⟩ | ⟨q,he⟩
  ·subst q;cases hv
  ·exact⟨e,cs,he,hr⟩
theorem NM {σ:TE} {t:List TV} {tm:Array Value} (ht:ai σ t tm.toList) {d:Nat} {v:TV} {x:Value} (hx:tm[d]?=some x) (hv:af σ v x):ai σ (t.set d v) tm.toList:=by
 have:=ht.set d hv
 have e:tm.toList.set d x=tm.toList:=by
  have hx':tm.toList[d]?=some x:=by rw [Array.getElem?_toList];exact hx
  apply List.ext_getElem?
  intro i
  by_cases h:d=i
  ·subst h
   rw [List.getElem?_set_self (List.getElem?_eq_some_iff.1 hx').1,hx']
  ·rw [List.getElem?_set_ne h]
 rwa [e] at this
theorem Step.same {σ:TE} {g:G} {t:List TV} {tm:Array Value} {w:World} (h:Rel P w0 σ g t tm w) {d:Nat} {v:TV} {x:Value} (hx:tm[d]?=some x) (hp:v.plain=true) (hv:af σ v x):Step P w0 σ g t tm w σ g (t.set d v) tm w:=by
 obtain⟨o1,o2⟩:=WT h.own hp d
 exact⟨⟨NM h.tl hx hv,o1,h.tw⟩, .refl _,Nat.le_refl _,fun r _ h1 h2 h3=>⟨rfl,h1,h2,fun q=>h3 (o2 r q)⟩⟩
theorem aQ.sound {ops:Array Oper} {d:List Nat} {Q:List TV->G->Prop} {s:St} {σ:TE} {a:Act} {w:World} {R:Exit->Act->World->Prop} (hR:∀t g σ' a' w',Q t g->Came P w0 σ s a w σ' ⟨t,d,g⟩ a' w'->R .normal a' w'):
  ∀(l:List Oper) (k:Nat) (t:List TV) (g:G) (σ1:TE) (a1:Act) (w1:World),ops.toList.drop k=l->aQ P w0 ro ops.toList Q l t g->Came P w0 σ s a w σ1 ⟨t,d,g⟩ a1 w1->wpOpsIn (qX ro) 0 P ops R ((List.range ops.size).drop k) a1 w1
 | [],k,t,g,σ1,a1,w1,hl,h,c=>by
  have:ops.size<=k:=by have:=congrArg List.length hl;simp at this;omega
  rw [List.drop_eq_nil_of_le (by simpa using this)]
  exact hR t g σ1 a1 w1 h c
 | o::l,k,t,g,σ1,a1,w1,hl,h,c=>by
  have hk:k < ops.size:=by have:=congrArg List.length hl;simp at this;omega
  have ho:ops[k]?=some o:=by
   have:=congrArg List.head? hl
   rw [List.head?_drop] at this
   simpa using this
  have hl':ops.toList.drop (k+1)=l:=by
   have:=congrArg List.tail hl
   simpa using this
  rw [List.drop_eq_getElem_cons (by simpa using hk)]
  simp only [List.getElem_range]
  unfold wpOpsIn
  simp only [ho]
  have hdo:∀t1:List TV,Came P w0 σ s a w σ1 ⟨t1,d,g⟩ a1 w1->iL P w0 ro o t1 g (fun t g=>aQ P w0 ro ops.toList Q l t g)->o.wpIn (qX ro) 0 P a1 w1 (fun a' w'=>wpOpsIn (qX ro) 0 P ops R ((List.range ops.size).drop (k+1)) a' w') R:=by
   intro t1 c1 h1
   refine h1.get σ1 a1 w1 c1.step.rel _ _ fun t' g' σ' w' x hv hp=>?_
   exact aQ.sound hR l (k+1) _ _ σ' _ w' hl' hv ⟨c1.step.trans hp,by rw [put_defers];exact c1.d⟩
  have hno:∀t1:List TV,Came P w0 σ s a w σ1 ⟨t1,d,g⟩ a1 w1->aQ P w0 ro ops.toList Q l (eG t1 o.dst .un) g->wpOpsIn (qX ro) 0 P ops R ((List.range ops.size).drop (k+1)) (a1.put o.dst undef) w1:=by
   intro t1 c1 h1
   exact aQ.sound hR l (k+1) _ _ σ1 _ w1 hl' h1 ⟨c1.step.trans (Step.post c1.step.rel (aJ.refl c1.step.rel.tw) rfl fI o.dst),by rw [put_defers];exact c1.d⟩
  have hs:=dS (ops:=ops) c.step.rel.tl (o:=o)
  unfold aQ at h
  cases hw:dG ops.toList t o with
  | yes=>
   simp only [hw] at h hs
   rw [if_pos hs]
   exact hdo t c h
  | no=>
   simp only [hw] at h hs
   rw [if_neg (by rw [hs];simp)]
   exact⟨fun _ _=>trivial,hno t c h⟩
  | may e want=>
   simp only [hw] at h hs
   obtain⟨b,hb,hz,he⟩:=hs
   have key:∀b,a1.tmps[e]?=some (.bool b)->Came P w0 σ s a w σ1 ⟨t.set e (.b (some b)),d,g⟩ a1 w1:=fun b hb=>⟨c.step.trans (Step.same c.step.rel hb rfl (by simp only [af])),c.d⟩
   by_cases hbw:b=want
   ·subst hbw
    rw [if_pos (by rw [he];simp)]
    exact hdo _ (key b hb) (h.1 hz)
   ·have hbn:b=!want:=by cases b<;>cases want<;>simp_all
    subst hbn
    rw [if_neg (by rw [he];cases want<;>simp)]
    exact⟨fun _ _=>trivial,hno _ (key _ hb) (h.2 hz)⟩
  | bad=>simp only [hw] at h
theorem TA.region {ops:Array Oper} {id:Nat} {Q:Exit->St->Prop} {s:St} (h:aQ P w0 ro ops.toList (fun t g=>Q .normal ⟨t,s.d,g⟩) ops.toList s.t s.g):TA P w0 ro (.region id ops false) Q s:=by
 refine .of fun σ a w m=>?_
 exact wpIn_region (aQ.sound (s:=s) (a:=a) (w:=w) (σ:=σ) (fun t g σ' a' w' q c=>⟨_,σ',q,c⟩) ops.toList 0 s.t s.g σ a w rfl h m.came)
structure TK where
 d:TypeDesc
 n:Nat
 bytes:Nat
 z:List TV
 dt:List TV
 cmp:Bool:=false
structure iM where
 ty:TypeId->Option TK
 NN:Nat
 ZO:Nat
 WU:Nat
 Yb:Nat->Int
instance:CoeFun iM fun _=>TypeId->Option TK:=⟨iM.ty⟩
def Em (k:TK):Bool:=match k.d with
 | .struct _ | .array _ _=>true
 | _=>false
def WV:Value->Bool
 | .agg _=>true
 | _=>false
structure ky (P:Program) (w0:World) (Y:iM):Prop where
 ty:∀ty k,Y ty=some k->P.underlying ty=some k.d/\∃i z,P.info? ty=some i/\i.size=k.n/\i.bytes=k.bytes/\i.zero=some z/\(∀σ,ai σ k.z z.cells.toList)/\(k.cmp=true->P.stoodInHeld ty=false/\P.eqGuardType P.depth ty=false)/\WV z=Em k
 Yb:Y.WU=0\/(Y.NN < w0.heap.size/\∃C e fz,w0.heap[Y.NN]?=some (.cells C e fz)/\∀o,Y.ZO<=o->o < Y.WU->C[o]?=some (.int .u64 (Y.Yb o))/\IntKind.u64.has (Y.Yb o))
instance {P:Program} {w0:World} {Y:iM}:CoeFun (ky P w0 Y) fun _=>∀ty k,Y ty=some k->P.underlying ty=some k.d/\∃i z,P.info? ty=some i/\i.size=k.n/\i.bytes=k.bytes/\i.zero=some z/\(∀σ,ai σ k.z z.cells.toList)/\(k.cmp=true->P.stoodInHeld ty=false/\P.eqGuardType P.depth ty=false)/\WV z=Em k:=⟨ky.ty⟩
theorem ky.agg {Y:iM} (h:ky P w0 Y) {ty:TypeId} {k:TK} (hk:Y ty=some k):BH P ty=some (Em k):=by
 obtain⟨h1,_⟩:=h ty k hk
 unfold BH Em
 rw [h1]
 obtain⟨d,n,b,z,q,u⟩:=k
 cases d<;>rfl
theorem ky.size {Y:iM} (h:ky P w0 Y) {ty:TypeId} {k:TK} (hk:Y ty=some k):bu P ty=some k.n:=by
 obtain⟨_,i,z,h1,h2,_⟩:=h ty k hk
 simp [bu,h1,h2]
def Cells (σ:TE) (w:World) (r o:Nat) (T:List TV):Prop:=∃C e fz,w.heap[r]?=some (.cells C e fz)/\∀(i:Nat) (a:TV),T[i]?=some a->∃v,C[o+i]?=some v/\af σ a v
theorem Cells.ptr {σ:TE} {g:G} {w:World} (r:TW P w0 σ g w) {T:List TV} {X:Value} (hx:af σ (.p T) X):∃b o,X= .pointer (some ⟨b,o,none⟩)/\Cells σ w b o T:=by
 simp only [af] at hx
 obtain⟨b,o,B,n,j,q,u,rfl,hb,rfl,hj,hq,hd⟩:=hx
 obtain⟨O,hO,C,e,rfl,hC,_,hT⟩:=r.blk _ _ hb
 refine⟨b,_,rfl,C,e,_,hO,fun i a ha=>?_⟩
 have hi:=(List.getElem?_eq_some_iff.1 ha).1
 have hlt:j*B.length+q+i < C.size:=by
  rw [hC]
  have:(j+1)*B.length<=n*B.length:=Nat.mul_le_mul_right _ hj
  rw [Nat.add_mul] at this
  omega
 have hm:(j*B.length+q+i) % B.length=q+i:=by rw [Nat.add_assoc,Nat.add_comm,Nat.add_mul_mod_self_right,Nat.mod_eq_of_lt (by omega)]
 refine hT _ a hlt ?_
 rw [hm, <- List.getElem?_drop,hd,List.getElem?_append_left hi];exact ha
theorem Cells.own {σ:TE} {g:G} {w:World} {t:List TV} {tm:Array Value} (r:Own w0 σ g w t tm) {d:Nat} {cs:List TV} (h:t[d]?=some (.ow cs)):tm[d]?=some (.pointer (some ⟨bS tm d,0,none⟩))/\∀o,Cells σ w (bS tm d) o (cs.drop o):=by
 obtain⟨r0,h1,_,_,_,C,e,h2,h3⟩:=r.ow d cs h
 have:=bP h1
 subst this
 refine⟨h1,fun o=>⟨C,e,_,h2,fun i a ha=>?_⟩⟩
 rw [List.getElem?_drop] at ha
 obtain⟨v,hv,hr⟩:=h3.get ha
 exact⟨v,by simpa using hv,hr⟩
theorem Cells.list {σ:TE} {w:World} {r:Nat}:∀{o:Nat} {T:List TV},Cells σ w r o T->∃vs:List Value,ai σ T vs/\∀j v,vs[j]?=some v->w.cell? ⟨r,o+j,none⟩=some v
 | o,[],h=>⟨[],by simp [ai],fun j v hv=>by simp at hv⟩
 | o,a::T,⟨C,e,fz,hC,h⟩=>by
  obtain⟨v,hv,hr⟩:=h 0 a rfl
  obtain⟨vs,h1,h2⟩:=Cells.list (o:=o+1) (T:=T) ⟨C,e,fz,hC,fun i b hb=>by
   obtain⟨u,hu,hr⟩:=h (i+1) b (by simpa using hb)
   exact⟨u,by rw [show o+1+i=o+(i+1) by omega];exact hu,hr⟩⟩
  refine⟨v::vs,⟨v,vs,rfl,hr,h1⟩,fun j u hu=>?_⟩
  cases j with
  | zero=>simp at hu;subst hu;rw [cell_of hC];simpa using hv
  | succ j=>
   have:=h2 j u (by simpa using hu)
   rw [show o+(j+1)=o+1+j by omega];exact this
def wR (k:TK) (T:List TV):Option TV:=match T with
 | a::T=>match Em k with
  | true=>if Nat.ble k.n (a::T).length then some (.agg ((a::T).take k.n)) else none
  | false=>some a
 | []=>none
theorem ma {Y:iM} (hY:ky P w0 Y) {ty:TypeId} {k:TK} (hk:Y ty=some k) {σ:TE} {w:World} {r o:Nat} {T:List TV} (h:Cells σ w r o T) {v:TV} (hv:wR k T=some v):∃u,(loadVar ty ⟨r,o,none⟩).run P w= .ok u w/\af σ v u:=by
 cases T with
 | nil=>cases hv
 | cons a T=>
  simp only [wR] at hv
  obtain⟨vs,h1,h2⟩:=h.list
  cases ha:Em k with
  | false=>
   simp only [ha,Option.some.injEq] at hv
   subst hv
   obtain⟨u,q,e,hu,_⟩:=h1
   subst e
   have:=h2 0 u rfl
   refine⟨u,?_,hu⟩
   have hag:=hY.agg hk
   rw [ha] at hag
   simp only [Nat.add_zero] at this
   simp [loadVar,jf hag,run_load,this]
  | true=>
   simp only [ha] at hv
   split at hv
   ·rename_i hle
    have hle:=Nat.le_of_ble_eq_true hle
    injection hv with hv;subst hv
    have hag:=hY.agg hk
    rw [ha] at hag
    have hl:=h1.length
    have ht:=h1.take k.n
    have hlen:(vs.take k.n).length=k.n:=by rw [List.length_take];simp at hl hle;omega
    refine⟨.agg (vs.take k.n).toArray,?_,⟨_,rfl,by simpa using ht⟩⟩
    have hr:=run_loadCells_list (P:=P) (w:=w) ⟨r,o,none⟩ (vs.take k.n) (fun j v hj=>by
     rw [addr_add]
     refine h2 j v ?_
     rw [List.getElem?_take] at hj
     split at hj
     ·exact hj
     ·cases hj)
    rw [hlen] at hr
    simp [loadVar,jf hag,aT (hY.size hk),hr]
   ·cases hv
noncomputable def I7 (Y:iM) (t:List TV):List ResultVar->Option (List TV)
 | []=>some []
 | x::r=>match I7 Y t r with
  | none=>none
  | some vs=>match x with
   | .tmp i=>some ((slot t i).zL::vs)
   | .cell a ty=>match Y ty,slot t a with
    | some k, .p T=>match wR k T with
     | some v=>some (v.zL::vs)
     | none=>none
    | some k, .ow T=>match wR k T with
     | some v=>some (v.zL::vs)
     | none=>none
    | _,_=>none
def PY:List TV->TV
 | [v]=>v
 | vs=> .aF vs
theorem dL {t:List TV} {d:Nat} {v:TV} (h:slot t d=v) (hv:v≠ .bg):t[d]?=some v:=by
 rw [dR,List.getD_eq_getElem?_getD] at h
 cases e:t[d]? with
 | none=>rw [e] at h;exact absurd h.symm hv
 | some u=>rw [e] at h;simp at h;rw [h]
theorem lN {Y:iM} (hY:ky P w0 Y) {σ:TE} {g:G} {w:World} {t:List TV} {tm:Array Value} (r:Rel P w0 σ g t tm w):∀{l:List ResultVar} {vs:List TV},I7 Y t l=some vs->
  ∃us:List Value,ai σ vs us/\(l.mapM (sO tm)).run P w= .ok us w
 | [],vs,h=>by
  simp only [I7,Option.some.injEq] at h
  subst h
  exact⟨[],by simp [ai],by simp⟩
 | x::l,vs,h=>by
  simp only [I7] at h
  split at h
  ·cases h
  ·rename_i vs0 h0
   obtain⟨us,h1,h2⟩:=lN hY r h0
   have hget:∀i,af σ (slot t i) (tm.getD i undef):=fun i=>by
    rw [dR]
    have:=r.tl.getD i undef
    simpa using this
   cases x with
   | tmp i=>
    simp only [Option.some.injEq] at h
    subst h
    exact⟨_::us,⟨_,_,rfl,lJ (hget i),h1⟩,by simp only [List.mapM_cons,sO,Sem.run_bind,Sem.run_pure,Result.andThen_ok,h2]⟩
   | cell a ty=>
    simp only at h
    have fin:∀(k:TK) (T:List TV) (b o:Nat),Y ty=some k->tm.getD a undef= .pointer (some ⟨b,o,none⟩)->Cells σ w b o T->(match wR k T with | some v=>some (v.zL::vs0) | none=>none)=some vs->∃us:List Value,ai σ vs us/\((ResultVar.cell a ty::l).mapM (sO tm)).run P w= .ok us w:=by
     intro k T b o hk ha hc he
     cases hr:wR k T with
     | none=>rw [hr] at he;cases he
     | some v=>
      rw [hr] at he
      simp only [Option.some.injEq] at he
      subst he
      obtain⟨u,hu,hv⟩:=ma hY hk hc hr
      exact⟨u::us,⟨_,_,rfl,lJ hv,h1⟩,by simp only [List.mapM_cons,sO,ha,asAddr,Sem.run_bind,Sem.run_pure,Result.andThen_ok,hu,h2]⟩
    split at h
    ·rename_i k T hk hs
     have hx:=hget a
     rw [hs] at hx
     obtain⟨b,o,e1,hc⟩:=Cells.ptr r.tw hx
     exact fin k T b o hk e1 hc h
    ·rename_i k T hk hs
     obtain⟨e1,hc⟩:=Cells.own r.own (dL hs (by simp))
     have hc:=hc 0
     rw [List.drop_zero] at hc
     refine fin k T _ 0 hk ?_ hc h
     rw [Array.getD_eq_getD_getElem?,e1];rfl
    ·cases h
theorem Lg {σ:TE} {vs:List TV} {us:Array Value} (h:ai σ vs us.toList):af σ (PY vs) (if h:us.size=1 then us[0] else .tuple us):=by
 unfold PY
 split
 ·rename_i v
  simp only [ai] at h
  obtain⟨u,q,e,hu,rfl⟩:=h
  obtain rfl:us=#[u]:=Array.toList_inj.1 e
  simpa using hu
 ·rename_i hne
  have hl:=h.length
  rw [dif_neg]
  ·exact⟨us,rfl,h⟩
  ·intro e
   cases vs with
   | nil=>simp at hl;omega
   | cons v vs=>
    cases vs with
    | nil=>exact hne v rfl
    | cons _ _=>simp at hl;omega
def eQ (g:G):List Nat->G
 | []=>g
 | d::l=>eQ (G.del g d) l
theorem Step.out {σ σ':TE} {g g':G} {t t':List TV} {tm tm':Array Value} {w w':World} (h:Step P w0 σ g t tm w σ' g' t' tm' w') (hn:∀r,¬qZ t tm r):aJ P w0 σ g w σ' g' w':=
 ⟨h.ext,h.size,fun r hr h1 h2=>by
  obtain⟨a,b,c,_⟩:=h.frame r hr h1 h2 (hn r)
  exact⟨a,b,c⟩,h.rel.tw⟩
theorem jD {Y:iM} (hY:ky P w0 Y) {fn:Func} {t:List TV} {tm:Array Value} {Q:TV->G->Prop} {σS σ:TE} {g0:G} {wS:World}:∀(d:List Nat) (g:G) (w:World),Rel P w0 σ g t tm w->aJ P w0 σS g0 wS σ g w->d.Nodup->(∀r∈d,g r=some .ng)->
  ∀{vs:List TV},I7 Y t fn.results.toList=some vs->Q (PY vs) (eQ g d)->
  LeavesInM Fence.wide 0 P fn tm (fun e w'=>∃v r g' σ',e= .returned v/\Q r g'/\aJ P w0 σS g0 wS σ' g' w'/\af σ' r v) (marks d) .returning w
 | [],g,w,ht,hp,_,_,vs,hr,hq=>by
  obtain⟨us,h1,h2⟩:=lN hY ht hr
  have hm:(results fn tm).run P w= .ok (if h:us.toArray.size=1 then us.toArray[0] else .tuple us.toArray) w:=by
   rw [Db,Array.mapM_eq_mapM_toList]
   simp [h2]
  refine⟨_,hm,_,PY vs,g,σ,rfl,hq,hp,?_⟩
  exact Lg (us:=us.toArray) (by simpa using h1)
 | r::d,g,w,ht,hp,hnd,hg,vs,hr,hq=>by
  refine⟨by simp, .inl ⟨r,?_⟩⟩
  have hgr:=hg r (by simp)
  obtain⟨vU,O,hO,rfl⟩:=hp.rel.obj r _ hgr
  have hk:(Instr.takeDeferred r).run P w= .ok [] {w with heap:=w.heap.setIfInBounds r (.deferred none)}:=run_takeDeferred hO
  have p1:=aJ.setG (w':={w with heap:=w.heap.setIfInBounds r (.deferred none)}) hp.rel r .ng hgr none (fun x h=>by cases h) (by simp) (fun k hk=>by simp [Ne.symm hk]) rfl rfl rfl
  have hp2:=hp.trans p1
  refine⟨_,rfl,hk,?_⟩
  have Us:=(List.nodup_cons.1 hnd)
  refine jD hY d _ _ ⟨ht.tl,ht.own.post p1,p1.rel⟩ hp2 Us.2 (fun q hq'=>?_) hr hq
  show(if q=r then none else g q)=some .ng
  rw [if_neg (by intro e;subst e;exact Us.1 hq')]
  exact hg q (by simp [hq'])
def WW (Y:iM) (fn:Func) (Q:TV->G->Prop) (e:Exit) (s:St):Prop:=
 (e= .normal\/e= .ret)/\s.d.Nodup/\(∀r∈s.d,s.g r=some .ng)/\∃vs,I7 Y s.t fn.results.toList=some vs/\Q (PY vs) (eQ s.g s.d)
def TV.dY:List TV->Bool
 | []=>true
 | v::l=>v.plain&&TV.dY l
theorem zM:∀{t:List TV},TV.dY t=true->∀{d:Nat} {v:TV},t[d]?=some v->v.plain=true
 | [],_,d,v,h=>by simp at h
 | a::t,hp,d,v,h=>by
  simp only [TV.dY,Bool.and_eq_true] at hp
  cases d with
  | zero=>simp at h;subst h;exact hp.1
  | succ d=>exact zM hp.2 (by simpa using h)
theorem J7 {σ:TE} {g:G} {w:World} {t:List TV} {tm:Array Value} (hp:∀{d:Nat} {v:TV},t[d]?=some v->v.plain=true):Own w0 σ g w t tm/\∀r,¬qZ t tm r:=
 ⟨⟨fun d cs h=>by(have:=hp h;cases this),fun d e cs cs' h=>by(have:=hp h;cases this),fun e d o cs h=>by(have:=hp h;cases this)⟩,fun r ⟨d,cs,h,_⟩=>by(have:=hp h;cases this)⟩
theorem Di:∀(n:Nat),TV.dY (List.replicate n .un)=true
 | 0=>rfl
 | n+1=>by rw [List.replicate_succ];simp [TV.dY,TV.plain,Di n]
theorem q9:∀{a b:List TV},TV.dY a=true->TV.dY b=true->TV.dY (a++b)=true
 | [],b,_,h=>h
 | v::a,b,h,hb=>by
  simp only [TV.dY,Bool.and_eq_true,List.cons_append] at h ⊢
  exact⟨h.1,q9 h.2 hb⟩
theorem av.qF {Y:iM} (hY:ky P w0 Y) {f:FuncId} {fn:Func} {c:Code} {args:List TV} {g:G} {Q:TV->G->Prop} (hf:P.funcs[f]?=some fn) (hb:fn.body=some c) (hpl:TV.dY args=true)
  (h:TA P w0 none c (WW Y fn Q) ⟨args++List.replicate (fn.ntmps - args.length) .un,[],g⟩):av P w0 f args g Q:=by
 refine .of fun σ w vs ha hr=>?_
 refine callsIn_of_wp_marks hf hb trivial ?_
 have hl:=ha.length
 have hun:∀n,ai σ (List.replicate n .un) (Array.replicate n undef).toList:=fun n=>by
  rw [Array.toList_replicate]
  induction n with
  | zero=>simp [ai]
  | succ n ih=>exact⟨undef,_,rfl,fI,ih⟩
 obtain⟨o1,o2⟩:=J7 (w0:=w0) (σ:=σ) (g:=g) (w:=w) (tm:=vs++Array.replicate (fn.ntmps - vs.size) undef) (t:=args++List.replicate (fn.ntmps - args.length) .un) (fun h=>zM (q9 hpl (Di _)) h)
 have m:IZ P w0 σ ⟨args++List.replicate (fn.ntmps - args.length) .un,[],g⟩ {tmps:=vs++Array.replicate (fn.ntmps - vs.size) undef,defers:=[]} w:=by
  refine⟨⟨?_,o1,hr⟩,rfl⟩
  have e:vs.size=args.length:=by simpa using hl.symm
  rw [e]
  simpa using ha.append (hun (fn.ntmps - args.length))
 refine wpIn_mono (h.get σ _ w m) ?_
 rintro e a' w' ⟨s',σ',⟨he,hnd,hd,us,hres,hq⟩,k⟩
 have:=jD hY (fn:=fn) s'.d s'.g w' k.step.rel (k.step.out o2) hnd hd hres hq
 rcases he with rfl | rfl
 ·show LeavesInM _ _ _ _ _ _ a'.defers _ _
  rw [k.d];exact this
 ·show LeavesInM _ _ _ _ _ _ a'.defers _ _
  rw [k.d];exact this
end
end Go.TM
namespace Go.TM
open Go Go.RowKit Go.AM
def MN:IntKind->IntKind->Bool
 | .i8, .i8 | .i16, .i16 | .i32, .i32 | .i64, .i64 | .u8, .u8 | .u16, .u16 | .u32, .u32 | .u64, .u64=>true
 | _,_=>false
abbrev Cs:=List (Int×Int)
abbrev NP:=Option (Cs×TV)
inductive rf where
 | val (v:TV)
 | new (cs:List TV)
 | st (d:Nat) (cs:List TV)
abbrev WX:=Option (Cs×rf)
def within:IntKind->Int->Cs
 | .i8,n=>[(-128,n),(n,127)]
 | .i16,n=>[(-32768,n),(n,32767)]
 | .i32,n=>[(-2147483648,n),(n,2147483647)]
 | .i64,n=>[(-9223372036854775808,n),(n,9223372036854775807)]
 | .u8,n=>[(0,n),(n,255)]
 | .u16,n=>[(0,n),(n,65535)]
 | .u32,n=>[(0,n),(n,4294967295)]
 | .u64,n=>[(0,n),(n,18446744073709551615)]
mutual
def TV.sub:TV->TV->Option Cs
 | .b _, .b none=>some []
 | .bp _, .b none=>some []
 | .b (some x1), .b (some y1)=>if x1==y1 then some [] else none
 | .i k1 none, .i k1' none=>if MN k1 k1' then some [] else none
 | .i k1 (some n1), .i k1' none=>if MN k1 k1' then some (within k1 n1) else none
 | .i k1 (some n1), .i k1' (some m1)=>if MN k1 k1' then some [(n1,m1),(m1,n1)] else none
 | .i k1 (some n1), .rg k1' m2=>if MN k1 k1' then some [(0,n1),(n1,(m2:Int))] else none
 | .rg k1 m1, .rg k1' m2=>if MN k1 k1' then some [((m1:Int),(m2:Int))] else none
 | .rg k1 m1, .i k1' none=>if MN k1 k1' then some (within k1 m1) else none
 | .f, .f=>some []
 | .pn, .pn=>some []
 | .p T, .p U=>TV.subs T U
 | .pb T, .p U=>TV.subs T U
 | .pb T, .pb U=>TV.iU T U
 | .pn, .np z2 _=>some [(z2,0),(0,z2)]
 | .pb T, .np z2 U=>match TV.iU T U with
  | some c1=>some ((z2,1)::(1,z2)::c1)
  | none=>none
 | .np z1 T, .np z2 U=>match TV.iU T U with
  | some c1=>some ((z1,z2)::(z2,z1)::c1)
  | none=>none
 | .s T none, .s U none=>TV.iU T U
 | .s T (some n1), .s U none=>match TV.iU T U with
  | some c1=>some ((n1,1000000000)::c1)
  | none=>none
 | .s T (some n1), .s U (some m1)=>match TV.iU T U with
  | some c1=>some ((n1,m1)::(m1,n1)::c1)
  | none=>none
 | .val (.slice none 0 0), .s _ none=>some []
 | .val (.slice none 0 0), .s _ (some m1)=>some [(0,m1),(m1,0)]
 | .bD, .bD=>some []
 | .fn g1 fs cs, .fn g2 fs' cs'=>if Nat.beq g1 g2 then match TV.kL fs fs',TV.kL cs cs' with
  | some c1,some d1=>some (c1++d1)
  | _,_=>none
  else none
 | .agg a1, .agg b1=>TV.kL a1 b1
 | .aF a1, .aF b1=>TV.kL a1 b1
 | _, .bg=>some []
 | _,_=>none
def TV.kL:List TV->List TV->Option Cs
 | [],[]=>some []
 | a1::ae,b1::bs=>match TV.sub a1 b1,TV.kL ae bs with
  | some c1,some d1=>some (c1++d1)
  | _,_=>none
 | _,_=>none
def TV.subs:List TV->List TV->Option Cs
 | _,[]=>some []
 | a1::ae,b1::bs=>match TV.same a1 b1,TV.subs ae bs with
  | some c1,some d1=>some (c1++d1)
  | _,_=>none
 | _,_=>none
def TV.same:TV->TV->Option Cs
 | .b none, .b none=>some []
 | .b (some x1), .b (some y1)=>if x1==y1 then some [] else none
 | .i k1 none, .i k1' none=>if MN k1 k1' then some [] else none
 | .i k1 (some n1), .i k1' (some m1)=>if MN k1 k1' then some [(n1,m1),(m1,n1)] else none
 | .rg k1 m1, .rg k1' m2=>if MN k1 k1'&&Nat.beq m1 m2 then some [] else none
 | .f, .f=>some []
 | .pn, .pn=>some []
 | .p T, .p U=>TV.iU T U
 | .pb T, .pb U=>TV.iU T U
 | .np z1 T, .np z2 U=>match TV.iU T U with
  | some c1=>some ((z1,z2)::(z2,z1)::c1)
  | none=>none
 | .s T none, .s U none=>TV.iU T U
 | .s T (some n1), .s U (some m1)=>match TV.iU T U with
  | some c1=>some ((n1,m1)::(m1,n1)::c1)
  | none=>none
 | .bD, .bD=>some []
 | .fn g1 fs cs, .fn g2 fs' cs'=>if Nat.beq g1 g2 then match TV.iU fs fs',TV.iU cs cs' with
  | some c1,some d1=>some (c1++d1)
  | _,_=>none
  else none
 | .bg, .bg=>some []
 | _,_=>none
def TV.iU:List TV->List TV->Option Cs
 | [],[]=>some []
 | a1::ae,b1::bs=>match TV.same a1 b1,TV.iU ae bs with
  | some c1,some d1=>some (c1++d1)
  | _,_=>none
 | _,_=>none
end
def TV.cells:TV->List TV
 | .agg cs=>cs
 | a=>[a]
def TV.atom:TV->Bool
 | .agg _ | .aF _ | .bg | .ow _ | .aac _ _ | .val (.agg _) | .val (.tuple _) | .val (.complex ..)=>false
 | .val (.slice _ _ _)=>true
 | .val (.map none)=>true
 | .val _=>false
 | _=>true
def TV.atoms:List TV->Bool
 | []=>true
 | a::ae=>a.atom&&TV.atoms ae
def WY (op:BinOp) (k:IntKind):Option Int->Option Int->NP
 | some a,some b=>match op with
  | .add=>some (within k (a+b), .i k (some (a+b)))
  | .sub=>some (within k (a - b), .i k (some (a - b)))
  | .mul=>some (within k (a*b), .i k (some (a*b)))
  | .quo=>some ((1,b)::(0,a)::within k a, .i k (some (a / b)))
  | .rem=>some ([(1,b),(0,a)], .i k (some (a % b)))
  | .eql=>some ([], .bp (a=b))
  | .neq=>some ([], .bp (¬a=b))
  | .lss=>some ([], .bp (a < b))
  | .leq=>some ([], .bp (a<=b))
  | .gtr=>some ([], .bp (b < a))
  | .geq=>some ([], .bp (b<=a))
  | .and | .or | .xor | .andNot=>some ([], .i k none)
  | _=>none
 | _,_=>match op with
  | .add | .sub | .mul | .and | .or | .xor | .andNot=>some ([], .i k none)
  | .eql | .neq | .lss | .leq | .gtr | .geq=>some ([], .b none)
  | _=>none
def F7 (op:BinOp) (k:IntKind):Option Int->Option Int->NP
 | x,some b=>match op with
  | .shl=>some ([(0,b)], .i k none)
  | .shr=>match x with
   | some a=>some ((0,b)::within k a, .i k none)
   | none=>some ([(0,b)], .i k none)
  | _=>none
 | _,none=>none
def J8 (Y:iM) (xs ys:List TV):List Field->Option (List (Int×Int))
 | []=>some []
 | f::r=>if f.name= "_" then none else
  match Y f.type,xs[f.offset]?,ys[f.offset]?,J8 Y xs ys r with
  | some ⟨.int _,_,_,_,_,_⟩,some (.i k (some a)),some (.i k' (some b)),some z=>if MN k k' then some ((a,b)::z) else none
  | _,_,_,_=>none
def UN:List (Int×Int)->Prop
 | []=>True
 | (a,b)::l=>a=b/\UN l
def SL (Y:iM) (ty:TypeId) (x y:TV):Option TV:=
 match Y ty with
 | some ⟨.pointer e,_,_,_,_,_⟩=>match x,y with
  | .p _, .pn=>some (.b (some false))
  | .pn, .p _=>some (.b (some false))
  | .pn, .pn=>some (.b (some true))
  | .np z1 _, .pn=>some (.bp (z1=0))
  | .pn, .np z1 _=>some (.bp (z1=0))
  | .np _ _, .np _ _=>match Y e with
   | some k=>if Nat.blt 0 k.n then some (.b none) else none
   | none=>none
  | .p _, .p _=>match Y e with
   | some k=>if Nat.blt 0 k.n then some (.b none) else none
   | none=>none
  | _,_=>none
 | some ⟨.bool,_,_,_,_,_⟩=>match x,y with
  | .b (some a), .b (some b)=>some (.b (some (a==b)))
  | .b _, .b _=>some (.b none)
  | .bp _, .b none=>some (.b none)
  | .b none, .bp _=>some (.b none)
  | .bp p, .bp q=>some (.bp (p↔q))
  | .bp p, .b (some true)=>some (.bp p)
  | .bp p, .b (some false)=>some (.bp (¬p))
  | .b (some true), .bp p=>some (.bp p)
  | .b (some false), .bp p=>some (.bp (¬p))
  | _,_=>none
 | some ⟨.struct fs,_,_,_,_,true⟩=>match x,y with
  | .agg xs, .agg ys=>(J8 Y xs ys fs.toList).map fun l=> .bp (UN l)
  | _,_=>none
 | some ⟨.slice _,_,_,_,_,_⟩=>match x,y with
  | .s _ _, .val (.slice none 0 0)=>some (.b none)
  | .val (.slice none 0 0), .val (.slice none 0 0)=>some (.b (some true))
  | _,_=>none
 | _=>none
def TV.Wn:TV->TV
 | .pb T=> .p T
 | v=>v
def ZP:TV->TV
 | .b (some b)=> .b (some (!b))
 | .b none=> .b none
 | .bp p=> .bp (¬p)
 | v=>v
def WZ (Y:iM) (op:BinOp) (ty:TypeId) (x y:TV):NP:=
 match x,y with
 | .i k a, .i k' b=>match op with
  | .shl=>F7 op k a b
  | .shr=>F7 op k a b
  | op=>if MN k k' then WY op k a b else none
 | .f, .f=>match op with
  | .add | .sub | .mul | .quo=>some ([], .f)
  | .eql | .neq | .lss | .leq | .gtr | .geq=>some ([], .b none)
  | _=>none
 | x,y=>match op with
  | .eql=>(SL Y ty x.Wn y.Wn).map fun v=>([],v)
  | .neq=>(SL Y ty x.Wn y.Wn).map fun v=>([],ZP v)
  | _=>none
def Ff:TV->Option (Cs×TV)
 | .i k (some n)=>some (within k n, .i k none)
 | .i k none=>some ([], .i k none)
 | _=>none
def tdbl:BinOp->TV->TV->NP
 | .shl, .i .u64 (some a), .i _ (some b)=>some ([(b,1),(1,b)], .i .u64 (some ((a*2) % 18446744073709551616)))
 | .shr, .i .u64 (some a), .i _ (some b)=>some ([(0,b),(b,63)], .i .u64 (some (a / 2 ^ b.toNat)))
 | .and, .i .u64 (some a), .i .u64 (some b)=>some ([(b,2047),(2047,b)], .i .u64 (some (a % 2048)))
 | .rem, .i .u64 (some a), .i .u64 (some b)=>some ([(b,2048),(2048,b),(0,a)], .i .u64 (some (a % 2048)))
 | _,_,_=>none
def Yc (Y:iM) (op:BinOp) (ty:TypeId) (x y:TV):NP:=
 match Ff x,Ff y with
 | some (c1,a),some (c2,b)=>match WZ Y op ty a b with
  | some (c3,v)=>some (c1++(c2++c3),v)
  | none=>none
 | _,_=>none
def tun (op:UnOp) (x:TV):NP:=
 match op,x with
 | .neg, .i k (some a)=>some (within k (-a), .i k (some (-a)))
 | .neg, .i k none=>some ([], .i k none)
 | .neg, .f=>some ([], .f)
 | .not, .b (some b)=>some ([], .b (some (!b)))
 | .not, .b none=>some ([], .b none)
 | .not, .bp p=>some ([], .bp (¬p))
 | _,_=>none
def UO (Y:iM) (src dst:TypeId) (x:TV):NP:=
 match Y src,Y dst,x with
 | some _,some ⟨.int k,_,_,_,_,_⟩, .i _ (some n)=>some (within k n, .i k (some n))
 | some _,some ⟨.int k,_,_,_,_,_⟩, .i _ none=>some ([], .i k none)
 | some _,some ⟨.float .f64,_,_,_,_,_⟩, .i _ _=>some ([], .f)
 | some _,some ⟨.float .f64,_,_,_,_,_⟩, .f=>some ([], .f)
 | _,_,_=>none
def Yd:TV->TV->TV->Option TV
 | .b (some true),a,_=>some a
 | .b (some false),_,b=>some b
 | .b none, .b _, .b _=>some (.b none)
 | .b none, .bp _, .b _=>some (.b none)
 | .b none, .b _, .bp _=>some (.b none)
 | .b none, .bp _, .bp _=>some (.b none)
 | _,_,_=>none
def vH:List TV->List TV->Option Cs
 | [],_=>some []
 | a::ae,b::bs=>match TV.sub a b,vH ae bs with
  | some c,some d=>some (c++d)
  | _,_=>none
 | _::_,[]=>none
noncomputable def J9 (t:List TV) (k:TK):Operand->Option TV
 | .tmp d=>match slot t d with
  | .ow cs=>wR k cs
  | .aac e o=>match slot t e with
   | .ow cs=>wR k (cs.drop o)
   | _=>none
  | .p T=>wR k T
  | _=>none
 | _=>none
noncomputable def Ca (t:List TV) (k:TK) (v:TV):Operand->WX
 | .tmp d=>if TV.atoms v.cells&&Nat.beq v.cells.length k.n&&Nat.blt 0 k.n then
   match slot t d with
   | .ow cs=>if Nat.ble k.n cs.length then some ([], .st d (v.cells++cs.drop k.n)) else none
   | .aac e o=>match slot t e with
    | .ow cs=>if Nat.ble (o+k.n) cs.length then some ([], .st e (cs.take o++v.cells++cs.drop (o+k.n))) else none
    | _=>none
   | .p T=>(vH v.cells T).map fun c=>(c, .val .un)
   | _=>none
  else none
 | _=>none
def sS (place:Nat->Option (Nat×Nat)) (cells:List TV):List (Nat×TV)->Option (List TV)
 | []=>some cells
 | (i,v)::rest=>
  match place i with
  | none=>none
  | some (off,size)=>
   if TV.atoms v.cells&&Nat.beq v.cells.length size&&Nat.ble (off+size) cells.length then sS place (cells.take off++v.cells++cells.drop (off+size)) rest else none
def zN (Y:iM):List Field->Option (List (Nat×Nat))
 | []=>some []
 | f::r=>match Y f.type,zN Y r with
  | some k,some l=>some ((f.offset,k.n)::l)
  | _,_=>none
def UQ (Y:iM) (ty:TypeId) (cs:List TV) (off:Nat):Option TV:=
 match Y ty with
 | some k=>match Em k with
  | true=>if off+k.n<=cs.length then some (.agg ((cs.drop off).take k.n)) else none
  | false=>cs[off]?
 | none=>none
def tlen:TV->Option Int
 | .s _ (some n)=>some n
 | .val (.slice none 0 0)=>some 0
 | _=>none
def Wo (x:Option TV) (d:Int):Option Int:=
 match x with
 | none=>some d
 | some (.i _ (some n))=>some n
 | _=>none
def Ka (T:List TV):Nat->List TV->Option Cs
 | 0,[]=>some []
 | f+1,cs=>match TV.kL (cs.take T.length) T,Ka T f (cs.drop T.length) with
  | some c,some d=>some (c++d)
  | _,_=>none
 | _,_=>none
def RI (k:IntKind):List TV->Bool
 | []=>true
 | a::l=>(match a with
  | .i k' _=>MN k k'
  | _=>false)&&RI k l
def W9 (Y:iM) (kt:TypeId) (x:TV):Bool:=match Y kt with
 | some k=>(match k.d with
  | .int q=>(match x with
   | .i q' _=>MN q q'
   | _=>false)
  | .array n e=>(match Y e with
   | some k'=>(match k'.d with
    | .int q=>(match x with
     | .agg l=>Nat.beq l.length n&&RI q l&&Nat.beq k'.n 1
     | _=>false)
    | _=>false)
   | none=>false)
  | _=>false)
 | none=>false
def Xa:TV->Value->Option Prop
 | .i k (some a), .int k' n=>if MN k k' then some (a=n) else none
 | _,_=>none
def NQ:List TV->List Value->Option Prop
 | [],[]=>some True
 | a::l,v::r=>match Xa a v,NQ l r with
  | some p,some q=>some (p/\q)
  | _,_=>none
 | _,_=>none
def NR (x:TV) (v:Value):Option Prop:=match x with
 | .i k a=>Xa (.i k a) v
 | .agg l=>(match v with
  | .agg vs=>NQ l vs.toList
  | _=>none)
 | _=>none
def Kb (Y:iM) (ty:TypeId) (m:TV):Option (List Value×List TV):=match Y ty with
 | some k=>(match k.d with
  | .map kt e=>(match m with
   | .tab Ye ks vs=>if Nat.beq kt Ye then (match Y e with
    | some _=>some (ks,vs)
    | none=>none) else none
   | _=>none)
  | _=>none)
 | none=>none
def elt (an:Nat->Option (List TV)) (o:Oper) (k:TK):List TV:=match o.dst.bind an with
 | some T=>T
 | none=>k.dt
def eZ:Option Addr->Int
 | some ⟨_,_,none⟩=>1
 | _=>0
def jJ:Option Addr->Nat
 | some a=>a.block
 | none=>0
def aW:Option Addr->Nat
 | some a=>a.off
 | none=>0
def bR (a:Option Addr) (i:Nat):Option Addr:=a.map (·.add i)
theorem flat_get {a:Option Addr} (h:1<=eZ a):∃r b,a=some ⟨r,b,none⟩:=by
 unfold eZ at h
 split at h
 ·exact⟨_,_,rfl⟩
 ·omega
def eltL (an:Nat->Option (List TV)) (o:Oper) (k:TK) (cs:List TV):List TV:=match o.dst.bind an with
 | some []=>cs
 | some T=>T
 | none=>k.dt
noncomputable def I8 (Y:iM) (an:Nat->Option (List TV)) (t:List TV) (o:Oper):NP:=
 match o.op with
 | .move x=>some ([],dw t x)
 | .assign x=>some ([],dw t x)
 | .pick c a b=>(Yd (dw t c) (dw t a) (dw t b)).map fun v=>([],v)
 | .build ty parts=>match Y ty with
  | some k=>match k.d with
   | .struct fs=>match zN Y fs.toList with
    | some pl=>(sS (pl[·]?) k.z (parts.toList.map fun p=>(p.1,dw t p.2))).map fun cs=>([], .agg cs)
    | none=>none
   | .array _ e=>match Y e with
    | some k'=>(sS (fun i=>some (i*k'.n,k'.n)) k.z (parts.toList.map fun p=>(p.1,dw t p.2))).map fun cs=>([], .agg cs)
    | none=>none
   | _=>none
  | none=>none
 | .buildSlice ty len parts=>match Y ty with
  | some k=>match k.d with
   | .slice e=>match Y e with
    | some k'=>match sS (fun i=>some (i*k'.n,k'.n)) ((List.replicate len k'.z).flatten) (parts.toList.map fun p=>(p.1,dw t p.2)) with
     | some cs=>if Nat.ble (len*k'.n) 16777216&&Nat.blt 0 k'.n&&Nat.beq k'.z.length k'.n&&TV.atoms cs then (match Nat.beq (elt an o k').length k'.n with
      | true=>(Ka (elt an o k') len cs).map fun c=>(c, .s (elt an o k') (some len))
      | false=>(match Nat.blt 0 len with
       | true=>(TV.kL cs (eltL an o k' cs)).map fun c=>(c, .oC (eltL an o k' cs) len)
       | false=>none)) else none
     | none=>none
    | none=>none
   | _=>none
  | none=>none
 | .nilCheck x=>match (dw t x).Wn with
  | .p T=>some ([], .p T)
  | .np z1 T=>some ([(1,z1)], .p T)
  | _=>none
 | .binOp op ty x y _=>match o.dst.bind an with
  | some [.i _ none]=>Yc Y op ty (dw t x) (dw t y)
  | some [.pn]=>tdbl op (dw t x) (dw t y)
  | _=>WZ Y op ty (dw t x) (dw t y)
 | .unOp op _ x=>tun op (dw t x)
 | .convert src dst x=>UO Y src dst (dw t x)
 | .makeFunc fn fs cs=>match fn with
  | .func f=>some ([], .fn f (fs.toList.map (dw t)) (cs.toList.map (dw t)))
  | _=>none
 | .makeMap ty none=>match Y ty with
  | some k=>match k.d,o.dst.bind an with
   | .map kt _,some [v]=>some ([], .m kt v)
   | _,_=>none
  | none=>none
 | .lookup ty m x ok=>match Y ty with
  | some k=>match k.d,dw t m with
   | .map kt e, .m Ye v=>match Y e with
    | some k'=>match TV.kL k'.z v.cells with
     | some c=>if Nat.beq kt Ye&&W9 Y kt (dw t x)&&v.atom&&!Em k' then some (c,if ok then .aF [v, .b none] else v) else none
     | none=>none
    | none=>none
   | _,_=>none
  | none=>none
 | .mapUpdate ty m x y=>match Y ty with
  | some k=>match k.d,dw t m with
   | .map kt _, .m Ye v=>match TV.sub (dw t y) v with
    | some c=>if Nat.beq kt Ye&&W9 Y kt (dw t x)&&o.dst.isNone then some (c, .un) else none
    | none=>none
   | _,_=>none
  | none=>none
 | .makeSlice ty l c=>match Y ty with
  | some k=>match k.d with
   | .slice e=>match Y e,dw t l,dw t c with
    | some k', .i _ (some n), .i _ (some m)=>match TV.kL k'.z (elt an o k') with
     | some cs=>if Nat.beq (elt an o k').length k'.n&&Nat.ble k'.bytes 4096&&Nat.blt 0 k'.n&&Nat.beq k'.z.length k'.n&&TV.atoms k'.z then some ((0,n)::(n,m)::(m,n)::(n,68719476736)::cs, .s (elt an o k') (some n)) else none
     | none=>none
    | _,_,_=>none
   | _=>none
  | none=>none
 | .slice ty x lo hi none=>match Y ty with
  | some k=>match k.d,dw t x with
   | .slice e, .s T (some n)=>match Y e,Wo (lo.map (dw t)) 0,Wo (hi.map (dw t)) n with
    | some k',some l,some u=>if Nat.beq k'.n T.length then some ([(0,l),(l,u),(u,n)], .s T (some (u - l))) else none
    | _,_,_=>none
   | .slice e, .val (.slice none 0 0)=>match Y e,Wo (lo.map (dw t)) 0,Wo (hi.map (dw t)) 0 with
    | some _,some l,some u=>some ([(0,l),(l,u),(u,0)], .val (.slice none 0 0))
    | _,_,_=>none
   | _,_=>none
  | none=>none
 | .field s x f=>match Y s,dw t x with
  | some k, .agg cs=>match k.d with
   | .struct fs=>match fs[f]? with
    | some fd=>(UQ Y fd.type cs fd.offset).map fun v=>([],v)
    | none=>none
   | _=>none
  | _,_=>none
 | .indexAddr ty x ix=>match Y ty,dw t x,dw t ix with
  | some k, .s T (some n), .i _ (some i)=>match k.d with
   | .slice e=>match Y e with
    | some k'=>if Nat.beq k'.n T.length then some ([(0,i),(i+1,n)], .p T) else none
    | none=>none
   | _=>none
  | some k, .val (.slice a m _), .i _ (some i)=>match k.d with
   | .slice e=>match Y e with
    | some k'=>if Nat.beq k'.n 1 then some ([(0,i),(i+1,(m:Int)),(1,eZ a)], .val (.pointer (bR a i.toNat))) else none
    | none=>none
   | _=>none
  | some k, .oC T m, .i _ (some (.ofNat i))=>match k.d with
   | .slice e=>match Y e with
    | some k'=>if Nat.beq (m*k'.n) T.length&&Nat.blt 0 k'.n&&Nat.blt i m then some ([], .p (T.drop (i*k'.n))) else none
    | none=>none
   | _=>none
  | _,_,_=>none
 | .extract x i=>match dw t x with
  | .aF vs=>(vs[i]?).map fun v=>([],v)
  | _=>none
 | .call {callee:= .builtin b,args,argTypes}=>
  match b,args.toList.map (dw t),argTypes.toList with
  | .append,[s,x],[ty,tx]=>match Y ty,Y tx with
   | some k,some k2=>match k.d,k2.d with
    | .slice e, .slice _=>match Y e with
     | some k'=>if Nat.blt 0 k'.n&&Nat.ble k'.bytes 256&&Nat.beq k'.z.length k'.n&&TV.atoms k'.z then
       match s,x with
       | .s T (some n), .s U (some m)=>match TV.iU U T,TV.kL k'.z T with
        | some c,some c2=>if Nat.beq k'.n T.length then some ((n+m,1073741824)::(c++c2), .s T (some (n+m))) else none
        | _,_=>none
       | .val (.slice none 0 0), .s U (some m)=>match TV.kL k'.z U with
        | some c2=>if Nat.beq k'.n U.length then some ((m,1073741824)::c2, .s U (some m)) else none
        | none=>none
       | .s T (some n), .val (.slice none 0 0)=>match TV.kL k'.z T with
        | some c2=>if Nat.beq k'.n T.length then some ((n,1073741824)::c2, .s T (some n)) else none
        | none=>none
       | _,_=>none
      else none
     | none=>none
    | _,_=>none
   | _,_=>none
  | .copy,[.s T (some n), .s U (some m)],[ty,_]=>match Y ty with
   | some k=>match k.d with
    | .slice e=>match Y e,TV.iU U T with
     | some k',some c=>if Nat.beq k'.n T.length then some (c, .i .i64 (some (min n m))) else none
     | _,_=>none
    | _=>none
   | none=>none
  | .len,[x],[ty]=>match Y ty with
   | some k=>match k.d with
    | .slice _=>match x with
     | .s _ (some n)=>some ([], .i .i64 (some n))
     | .oC _ m=>some ([], .i .i64 (some (.ofNat m)))
     | .val (.slice _ m _)=>some ([], .i .i64 (some (m:Int)))
     | _=>none
    | _=>none
   | none=>none
  | .max,[.i k (some a), .i _ (some b)],_=>some ([], .i k (some (max a b)))
  | .min,[.i k (some a), .i _ (some b)],_=>some ([], .i k (some (min a b)))
  | .max,[.f, .f],_=>some ([], .f)
  | .min,[.f, .f],_=>some ([], .f)
  | _,_,_=>none
 | _=>none
def F8 (Y:iM) (s:TypeId) (f:Nat):Option Nat:=match Y s with
 | some k=>match k.d with
  | .struct fs=>match fs[f]? with
   | some fd=>match Y fd.type with
    | some k'=>if Nat.blt 0 k'.n then some fd.offset else none
    | none=>none
   | none=>none
  | _=>none
 | none=>none
noncomputable def zO (t:List TV) (off:Nat):Operand->Option TV
 | .tmp d=>match slot t d with
  | .ow _=>some (.aac d off)
  | .aac e o=>match slot t e with
   | .ow _=>some (.aac e (o+off))
   | _=>none
  | .p T=>if Nat.blt off T.length then some (.p (T.drop off)) else none
  | _=>none
 | _=>none
def UR (an:Nat->Option (List TV)) (d:Nat):Bool:=match an d with
 | some (.bD::_)=>true
 | _=>false
def nowAs (an:Nat->Option (List TV)) (d:Nat):Option (List TV):=match an d with
 | some (_::a::r)=>some (a::r)
 | _=>none
def UT (Y:iM) (k:TK) (a:Option Addr):WX:=match k.d with
 | .int .u64=>some ([(1,eZ a),((jJ a:Int),(Y.NN:Int)),((Y.NN:Int),(jJ a:Int)),((Y.ZO:Int),(aW a:Int)),((aW a:Int)+1,(Y.WU:Int))], .val (.i .u64 (some (Y.Yb (aW a)))))
 | _=>none
noncomputable def top (Y:iM) (an:Nat->Option (List TV)) (t:List TV) (o:Oper):WX:=
 match o.op with
 | .alloc e=>match Y e,o.dst with
  | some k,some _=>if TV.atoms k.z&&Nat.blt 0 k.z.length then some ([], .new k.z) else none
  | _,_=>none
 | .box _ x=>match o.dst with
  | some d=>if TV.atoms (dw t x).cells&&Nat.blt 0 (dw t x).cells.length then (match UR an d with
   | true=>(match nowAs an d with
    | some T=>(TV.kL (dw t x).cells T).map fun c=>(c, .val (.pb T))
    | none=>some ([], .val (.pb (dw t x).cells)))
   | false=>some ([], .new (dw t x).cells)) else none
  | none=>none
 | .load ty a=>match Y ty with
  | some k=>(match dw t a with
   | .val (.pointer a)=>UT Y k a
   | _=>(J9 t k a).map fun v=>([], .val v.zL))
  | none=>none
 | .store ty a x=>match Y ty,o.dst with
  | some k,none=>Ca t k (dw t x) a
  | _,_=>none
 | .fieldAddr s x f=>match F8 Y s f with
  | some off=>(zO t off x).map fun v=>([], .val v)
  | none=>none
 | .indexAddr ty x ix=>match Y ty with
  | some ⟨.array n e,_,_,_,_,_⟩=>match Y e,dw t ix with
   | some k', .i _ (some (.ofNat i))=>if Nat.blt i n&&Nat.blt 0 k'.n then (zO t (i*k'.n) x).map fun v=>([], .val v) else none
   | _,_=>none
  | _=>(I8 Y an t o).map fun r=>(r.1, .val r.2.zL)
 | _=>(I8 Y an t o).map fun r=>(r.1, .val r.2.zL)
def rf.app (t:List TV) (d:Option Nat):rf->List TV
 | .val v=>eG t d v
 | .new cs=>match d with
  | some d=>(aV d t).set d (.ow cs)
  | none=>t
 | .st e cs=>t.set e (.ow cs)
def iV:Operand->List Nat
 | .tmp d=>[d]
 | _=>[]
def tmpsOf:List Operand->List Nat
 | []=>[]
 | x::l=>iV x++tmpsOf l
def opPub (o:Oper):List Nat:=match o.op with
 | .load _ _=>[]
 | .store _ _ x=>iV x
 | .fieldAddr _ _ _=>[]
 | .binOp .. =>[]
 | .unOp .. =>[]
 | .alloc _=>[]
 | op=>tmpsOf op.operands.toList
def UU:List Oper->List Nat
 | []=>[]
 | o::l=>opPub o++UU l
end Go.TM
namespace Go.TM
open Go Go.RowKit Go.AM
def PZ:Cs->Prop->Prop
 | [],K=>K
 | (a,b)::c,K=>a<=b/\PZ c K
noncomputable def fU:TV->(TV->Prop)->Prop:=TV.rec (motive_1:=fun _=>(TV->Prop)->Prop) (motive_2:=fun _=>(List TV->Prop)->Prop)
 (fun x k=>k (.b x)) (fun p k=>k (.bp p)) (fun q x k=>k (.i q x)) (fun k=>k .f) (fun k=>k .pn) (fun _ ih k=>ih fun T=>k (.p T)) (fun _ n ih k=>ih fun T=>k (.s T n)) (fun q _ ih k=>ih fun v=>k (.m q v))
 (fun g _ _ h1 h2 k=>h1 fun fs=>h2 fun cs=>k (.fn g fs cs)) (fun r k=>k (.y r)) (fun k=>k .bD) (fun _ h k=>h fun cs=>k (.agg cs)) (fun _ h k=>h fun cs=>k (.aF cs)) (fun v k=>k (.val v)) (fun k=>k .bg)
 (fun _ h k=>h fun cs=>k (.ow cs)) (fun d o k=>Nat.rec (k (.aac d 0)) (fun o _=>k (.aac d (o+1))) o) (fun _ m h k=>h fun cs=>k (.oC cs m)) (fun q ks _ h k=>h fun vs=>k (.tab q ks vs)) (fun q m k=>k (.rg q m)) (fun _ ih k=>ih fun T=>k (.pb T)) (fun z _ ih k=>ih fun T=>k (.np z T))
 (fun k=>k []) (fun _ _ h1 h2 k=>h1 fun a=>h2 fun l=>k (a::l))
noncomputable def fJ:List TV->(List TV->Prop)->Prop:=TV.rec_1 (motive_1:=fun _=>(TV->Prop)->Prop) (motive_2:=fun _=>(List TV->Prop)->Prop)
 (fun x k=>k (.b x)) (fun p k=>k (.bp p)) (fun q x k=>k (.i q x)) (fun k=>k .f) (fun k=>k .pn) (fun _ ih k=>ih fun T=>k (.p T)) (fun _ n ih k=>ih fun T=>k (.s T n)) (fun q _ ih k=>ih fun v=>k (.m q v))
 (fun g _ _ h1 h2 k=>h1 fun fs=>h2 fun cs=>k (.fn g fs cs)) (fun r k=>k (.y r)) (fun k=>k .bD) (fun _ h k=>h fun cs=>k (.agg cs)) (fun _ h k=>h fun cs=>k (.aF cs)) (fun v k=>k (.val v)) (fun k=>k .bg)
 (fun _ h k=>h fun cs=>k (.ow cs)) (fun d o k=>Nat.rec (k (.aac d 0)) (fun o _=>k (.aac d (o+1))) o) (fun _ m h k=>h fun cs=>k (.oC cs m)) (fun q ks _ h k=>h fun vs=>k (.tab q ks vs)) (fun q m k=>k (.rg q m)) (fun _ ih k=>ih fun T=>k (.pb T)) (fun z _ ih k=>ih fun T=>k (.np z T))
 (fun k=>k []) (fun _ _ h1 h2 k=>h1 fun a=>h2 fun l=>k (a::l))
noncomputable def lK:List TV->(List TV->Prop)->Prop:=List.rec (fun k=>k []) (fun a _ ih k=>fU a fun a=>ih fun l=>k (a::l))
noncomputable def dK (v:TV) (l:List TV):Nat->(List TV->Prop)->Prop:=
 List.rec (fun _ k=>k []) (fun a r ih d k=>Nat.rec (k (v::r)) (fun d _=>ih d fun r=>k (a::r)) d) l
noncomputable def RJ (d:Nat) (l:List TV):(List TV->Prop)->Prop:=
 List.rec (fun k=>k []) (fun a _ ih k=>ih fun r=>match a with
  | .aac e o=>(match Nat.beq e d with
   | true=>k (.bg::r)
   | false=>k (.aac e o::r))
  | a=>k (a::r)) l
def lL (S d:Nat) (K:Prop):Prop:=match Nat.testBit S d with
 | true=>K
 | false=>False
noncomputable def Cb (S:Nat) (v:TV) (l:List TV):Option Nat->(List TV->Prop)->Prop
 | some d,k=>lL S d (fU v fun v=>dK v l d k)
 | none,k=>k l
noncomputable def Xb (S:Nat) (t:List TV) (d:Option Nat) (u:rf) (k:List TV->Prop):Prop:=match u with
 | .val v=>Cb S v t d k
 | .new cs=>match d with
  | some d=>lL S d (lK cs fun cs=>RJ d t fun t=>dK (.ow cs) t d k)
  | none=>False
 | .st e cs=>lL S e (lK cs fun cs=>dK (.ow cs) t e k)
abbrev Spec:=FuncId->List TV->(TV->Prop)->Prop
abbrev rq:=FuncId->List TV->(List TV->Prop)->Prop
mutual
def TV.sU (a b:TV):Option (Cs×List Int):=match a with
 | .i k (some _)=>(match b with
  | .i k' (some e)=>if MN k k' then some ([],[e]) else none
  | _=>none)
 | .s T (some _)=>(match b with
  | .s U (some e)=>(match TV.iU U T with
   | some c=>some (c,[e])
   | none=>none)
  | .val (.slice none 0 0)=>some ([],[0])
  | _=>none)
 | .p T=>(match b with
  | .p U=>TV.Kc T U
  | .pb U=>TV.Kc T U
  | _=>none)
 | .pb T=>(match b with
  | .pb U=>TV.mf T U
  | _=>none)
 | .np _ T=>(match b with
  | .np z2 U=>(match TV.mf T U with
   | some (c1,n1)=>some (c1,z2::n1)
   | none=>none)
  | .pn=>(match TV.mf T T with
   | some (c1,n1)=>some (c1,0::n1)
   | none=>none)
  | .pb U=>(match TV.mf T U with
   | some (c1,n1)=>some (c1,1::n1)
   | none=>none)
  | _=>none)
 | .oC T n1=>(match b with
  | .oC U n2=>if Nat.beq n1 n2 then TV.mf T U else none
  | _=>none)
 | .agg ae=>(match b with
  | .agg bs=>TV.oW ae bs
  | _=>none)
 | .aF ae=>(match b with
  | .aF bs=>TV.oW ae bs
  | _=>none)
 | .fn g fs cs=>(match b with
  | .fn g' fs' cs'=>if Nat.beq g g' then (match TV.oW fs fs',TV.oW cs cs' with
   | some (c1,n1),some (c2,n2)=>some (c1++c2,n1++n2)
   | _,_=>none) else none
  | _=>none)
 | a=>(TV.sub b a).map fun c=>(c,[])
def TV.oW (a b:List TV):Option (Cs×List Int):=match a with
 | []=>(match b with
  | []=>some ([],[])
  | _=>none)
 | a1::ae=>(match b with
  | b1::bs=>(match TV.sU a1 b1,TV.oW ae bs with
   | some (c1,n1),some (c2,n2)=>some (c1++c2,n1++n2)
   | _,_=>none)
  | []=>none)
def TV.Kc (a b:List TV):Option (Cs×List Int):=match a with
 | []=>some ([],[])
 | a1::ae=>(match b with
  | b1::bs=>(match TV.oZ a1 b1,TV.Kc ae bs with
   | some (c1,n1),some (c2,n2)=>some (c1++c2,n1++n2)
   | _,_=>none)
  | []=>none)
def TV.oZ (a b:TV):Option (Cs×List Int):=match a with
 | .i k (some _)=>(match b with
  | .i k' (some e)=>if MN k k' then some ([],[e]) else none
  | _=>none)
 | .s T (some _)=>(match b with
  | .s U (some e)=>(match TV.iU U T with
   | some c=>some (c,[e])
   | none=>none)
  | _=>none)
 | .p T=>(match b with
  | .p U=>TV.mf T U
  | _=>none)
 | .pb T=>(match b with
  | .pb U=>TV.mf T U
  | _=>none)
 | .np _ T=>(match b with
  | .np z2 U=>(match TV.mf T U with
   | some (c1,n1)=>some (c1,z2::n1)
   | none=>none)
  | _=>none)
 | .fn g fs cs=>(match b with
  | .fn g' fs' cs'=>if Nat.beq g g' then (match TV.mf fs fs',TV.mf cs cs' with
   | some (c1,n1),some (c2,n2)=>some (c1++c2,n1++n2)
   | _,_=>none) else none
  | _=>none)
 | .agg _=>none
 | .aF _=>none
 | .oC _ _=>none
 | a=>(TV.same b a).map fun c=>(c,[])
def TV.mf (a b:List TV):Option (Cs×List Int):=match a with
 | []=>(match b with
  | []=>some ([],[])
  | _=>none)
 | a1::ae=>(match b with
  | b1::bs=>(match TV.oZ a1 b1,TV.mf ae bs with
   | some (c1,n1),some (c2,n2)=>some (c1++c2,n1++n2)
   | _,_=>none)
  | []=>none)
end
mutual
def TV.fill (a:TV) (l:List Int):TV×List Int:=match a with
 | .i k (some n)=>(match l with
  | x1::r=>(.i k (some x1),r)
  | []=>(.i k (some n),[]))
 | .s T (some n)=>(match l with
  | x1::r=>(.s T (some x1),r)
  | []=>(.s T (some n),[]))
 | .p T=>(match TV.fills T l with
  | (T,r)=>(.p T,r))
 | .pb T=>(match TV.fills T l with
  | (T,r)=>(.pb T,r))
 | .np z1 T=>(match l with
  | x1::r=>(match TV.fills T r with
   | (T,r)=>(.np x1 T,r))
  | []=>(.np z1 T,[]))
 | .oC T n1=>(match TV.fills T l with
  | (T,r)=>(.oC T n1,r))
 | .agg ae=>(match TV.fills ae l with
  | (T,r)=>(.agg T,r))
 | .aF ae=>(match TV.fills ae l with
  | (T,r)=>(.aF T,r))
 | .fn g fs cs=>(match TV.fills fs l with
  | (fs,r)=>(match TV.fills cs r with
   | (cs,r)=>(.fn g fs cs,r)))
 | a=>(a,l)
def TV.fills (a:List TV) (l:List Int):List TV×List Int:=match a with
 | []=>([],l)
 | a1::ae=>(match TV.fill a1 l with
  | (a2,r)=>(match TV.fills ae r with
   | (ZQ,r2)=>(a2::ZQ,r2)))
end
mutual
def TV.cnt:TV->Nat
 | .i _ (some _)=>1
 | .s _ (some _)=>1
 | .p T=>TV.oD T
 | .pb T=>TV.oD T
 | .np _ T=>TV.oD T+1
 | .oC T _=>TV.oD T
 | .agg ae=>TV.oD ae
 | .aF ae=>TV.oD ae
 | .fn _ fs cs=>TV.oD fs+TV.oD cs
 | _=>0
def TV.oD:List TV->Nat
 | []=>0
 | a::ae=>TV.cnt a+TV.oD ae
end
structure LI where
 NS:List (Nat×TV)
 keys:List Nat
 pre:List Int->Prop
 meas:List Int->Int
 un:Nat
 obs:List (Nat×TV):=[]
def LI.at (L:LI) (os:List Int):LI:=⟨L.NS,L.keys,fun xs=>L.pre (xs++os),fun xs=>L.meas (xs++os),L.un,[]⟩
def allI:Nat->(List Int->Prop)->Prop
 | 0,K=>K []
 | n+1,K=>∀x:Int,allI n fun l=>K (x::l)
def Ls:List Oper->List Nat
 | []=>[]
 | o::l=>match o.dst with
  | some d=>d::Ls l
  | none=>Ls l
def sets:Code->List Nat
 | .region _ ops _=>Ls ops.toList
 | .seq a b=>sets a++sets b
 | .cond _ a b=>sets a++sets b
 | .block _ a=>sets a
 | .loop a=>sets a
 | .scope a=>sets a
 | _=>[]
def NT:List Oper->List Nat
 | []=>[]
 | o::l=>tmpsOf o.op.operands.toList++NT l
def names:Code->List Nat
 | .region _ ops _=>NT ops.toList
 | .seq a b=>names a++names b
 | .cond c a b=>iV c++names a++names b
 | .block _ a=>names a
 | .loop a=>names a
 | .scope a=>names a
 | .rangeFunc g _ a b=>iV g++names a++names b
 | _=>[]
def mask:List Nat->Nat
 | []=>0
 | d::l=>Nat.lor (Nat.shiftLeft 1 d) (mask l)
noncomputable def RL:List Nat->List TV->(List TV->Prop)->Prop
 | [],t,k=>k t
 | d::l,t,k=>dK .bg t d fun t=>RL l t k
noncomputable def RN:List (Nat×TV)->List TV->(List TV->Prop)->Prop
 | [],t,k=>k t
 | (d,v)::l,t,k=>fU v fun v=>dK v t d fun t=>RN l t k
noncomputable def UW (t:List TV) (d:Nat) (v:TV):Option (Cs×List Int):=match v with
 | .ow T=>(match slot t d with
  | .ow cs=>TV.oW T cs
  | _=>none)
 | v=>TV.sU v (slot t d).zL
noncomputable def zP (t:List TV):List (Nat×TV)->Option (Cs×List Int)
 | []=>some ([],[])
 | (d,v)::l=>match UW t d v,zP t l with
  | some (c,x),some (e,y)=>some (c++e,x++y)
  | _,_=>none
def sV (v:TV) (l:List Int):TV×List Int:=match v with
 | .ow T=>(match TV.fills T l with
  | (T,r)=>(.ow T,r))
 | v=>TV.fill v l
def zQ:List (Nat×TV)->List Int->List (Nat×TV)
 | [],_=>[]
 | (d,v)::l,xs=>match sV v xs with
  | (v,r)=>(d,v)::zQ l r
def UX:List (Nat×TV)->Nat
 | []=>0
 | (_,v)::l=>(match v with
  | .ow T=>TV.oD T
  | v=>TV.cnt v)+UX l
noncomputable def NU (S:Nat) (an:Nat->Option (List TV)):List Nat->List TV->(List TV->Prop)->Prop
 | [],t,k=>k t
 | d::l,t,k=>match slot t d with
  | .ow cs=>(match TV.atoms cs&&Nat.blt 0 cs.length with
   | false=>False
   | true=>match an d with
   | some T=>(match TV.kL cs T with
    | some c=>PZ c (lL S d (lK T fun T=>dK (.p T) t d fun t=>NU S an l t k))
    | none=>False)
   | none=>lL S d (dK (.p cs) t d fun t=>NU S an l t k))
  | _=>NU S an l t k
def bK:List Nat->Nat->Bool
 | [],_=>false
 | a::l,n=>match Nat.beq a n with
  | true=>true
  | false=>bK l n
noncomputable def NV (l:List TV):(List TV->Prop)->Prop:=
 List.rec (fun k=>k []) (fun a _ ih k=>ih fun r=>match a with
  | .aac _ _=>k (.bg::r)
  | a=>k (a::r)) l
def o5 (ss:List Nat):List (Nat×TV)->Bool
 | []=>true
 | (d,v)::l=>bK ss d&&(match v with
  | .aac _ _=>false
  | _=>true)&&o5 ss l
def guardOf (ops:List Oper) (o:Oper):List Nat:=match o.guard with
 | none=>[]
 | some (j,_)=>match ops[j]? with
  | none=>[]
  | some q=>match q.dst with
   | none=>[]
   | some d=>[d]
def guards (ops:List Oper):List Oper->List Nat
 | []=>[]
 | o::l=>guardOf ops o++guards ops l
def jF (R:List (Nat×Nat)):List Nat->List Nat
 | []=>[]
 | d::l=>(R.filterMap fun p=>bif Nat.beq p.1 d then some p.2 else none)++jF R l
def jG (R:List (Nat×Nat)) (o:Oper):List (Nat×Nat):=match o.op,o.dst with
 | .fieldAddr _ x _,some d=>(iV x++jF R (iV x)).map fun e=>(d,e)
 | .indexAddr _ x _,some d=>(iV x++jF R (iV x)).map fun e=>(d,e)
 | _,_=>[]
def Fg (R:List (Nat×Nat)):List Oper->List (Nat×Nat)
 | []=>R
 | o::l=>Fg (jG R o++R) l
def looks (ops:List Oper) (R:List (Nat×Nat)) (o:Oper):List Nat:=
 guardOf ops o++tmpsOf o.op.operands.toList++jF R (guardOf ops o++tmpsOf o.op.operands.toList)
def turns (R:List (Nat×Nat)) (o:Oper):List Nat:=(match o.dst with
 | some d=>[d]
 | none=>[])++(match o.op with
 | .store _ a _=>iV a++jF R (iV a)
 | _=>[])
def apart (a b:List Nat):Bool:=match a with
 | []=>true
 | x::l=>bif bK b x then false else apart l b
def yw (ops:List Oper) (R:List (Nat×Nat)) (a b:Oper):Bool:=
 apart (turns R a) (looks ops R b)&&apart (turns R a) (turns R b)&&apart (turns R b) (looks ops R a)
def waitsFor (ae:List Nat):List Edge->Nat
 | []=>0
 | e::l=>bif Region.binds .any e then Nat.lor (Nat.lor (Nat.shiftLeft 1 e.on) (ae.getD e.on 0)) (waitsFor ae l) else waitsFor ae l
def zR (ops:List Oper) (R:List (Nat×Nat)) (m:Nat) (o:Oper):Nat->List Oper->Bool
 | _,[]=>true
 | i,b::l=>(bif Nat.testBit m i then true else yw ops R b o)&&zR ops R m o (i+1) l
def zS (ops:List Oper) (R:List (Nat×Nat)) (done:List Oper) (ae:List Nat):List Oper->Bool
 | []=>true
 | o::l=>zR ops R (waitsFor ae o.after.toList) o 0 done&&(o.after.toList.all fun e=>bif Region.binds .any e then Nat.blt e.on done.length else true)&&zS ops R (done++[o]) (ae++[waitsFor ae o.after.toList]) l
def Xc:List (Nat×Nat)->Nat×Nat->Bool
 | [],_=>false
 | a::l,p=>bif Nat.beq a.1 p.1&&Nat.beq a.2 p.2 then true else Xc l p
def Fh (R:List (Nat×Nat)):List Oper->Bool
 | []=>true
 | o::l=>(jG R o).all (Xc R)&&Fh R l
def Qa (ops:List Oper):Bool:=Fh (Fg [] ops) ops&&zS ops (Fg [] ops) [] [] ops
def fe:Code->Bool
 | .seq a b=>fe a&&fe b
 | .cond _ a b=>fe a&&fe b
 | .block _ a=>fe a
 | .loop a=>fe a
 | .scope a=>fe a
 | .rangeFunc .. =>false
 | _=>true
noncomputable def UY (l:List TV):(List TV->Prop)->Prop:=
 List.rec (fun k=>k []) (fun a _ ih k=>ih fun r=>k (a.zL::r)) l
def UZ:Operand->Bool
 | .const (.slice none 0 0)=>true
 | _=>false
def vI (Y:iM) (op:BinOp) (ty:TypeId) (v:TV) (y:Operand):Option Int:=match op with
 | .eql=>(match UZ y with
  | true=>(match Y ty with
   | some k=>(match k.d with
    | .slice _=>(match v with
     | .s _ (some n)=>some n
     | _=>none)
    | _=>none)
   | none=>none)
  | false=>none)
 | _=>none
def isLit:Operand->Bool
 | .const (.int _ (.ofNat _))=>true
 | _=>false
def nA (op:BinOp) (x y:TV) (oy:Operand):Option (IntKind×Cs×Int):=match op with
 | .and=>(match x,y with
  | .i k _, .i k' (some m)=>if MN k k' then some (k,(0,m)::within k m,m) else none
  | _,_=>none)
 | .shr=>(match isLit oy with
  | true=>(match x,y with
   | .i .u64 none, .i _ (some (.ofNat n))=>if Nat.ble n 64 then some (.u64,[], .ofNat (18446744073709551615 / 2 ^ n)) else none
   | _,_=>none)
  | false=>none)
 | _=>none
def isU:TV->Option Cs
 | .i .u64 none=>some []
 | .i .u64 (some n)=>some [(0,n),(n,18446744073709551615)]
 | _=>none
def F9 (a b:TV) (c:Int) (K:TV->Prop):Prop:=match isU a,isU b with
 | some c1,some c2=>PZ c1 (PZ c2 (0<=c/\c<=1/\K (.aF [.i .u64 none, .rg .u64 1])))
 | _,_=>False
def Qb (ok:Bool) (x:TV) (K:TV->Prop):List Value->List TV->Prop
 | [],_=>False
 | k::ks,vs=>match vs with
  | []=>False
  | a::vs=>match NR x k with
   | some p=>(p->K (bif ok then .aF [a, .b (some true)] else a))/\(¬p->Qb ok x K ks vs)
   | none=>False
section
variable (X:Nat->Option XK) (Y:iM) (SP:Spec) (IT:rq) (an:Nat->Option (List TV)) (iv:Nat->Option LI)
def En:XK->List TV->(TV->Prop)->Prop
 | .bits,[.f],K=>K (.i .u64 none)
 | .ic,[.i .u64 none],K=>K .f
 | .ic,[.i .u64 (some n)],K=>0<=n/\n<=18446744073709551615/\K .f
 | .sqrt,[.f],K=>K .f
 | .zi,[a,b, .i .u64 (some c)],K=>F9 a b c K
 | .zk,[a,b, .i .u64 (some c)],K=>F9 a b c K
 | _,_,_=>False
noncomputable def NW (args:List TV) (K:TV->Prop):TV->Prop
 | .fn f fs cs=>match X f with
  | some x=>En x (fs++args++cs) K
  | none=>lK (fs++args++cs) fun l=>SP f l K
 | _=>False
noncomputable def SN (S:Nat) (t:List TV) (d:Option Nat) (K:List TV->Prop):WX->Prop
 | some (c,u)=>PZ c (Xb S t d u K)
 | none=>False
noncomputable def ZR (S:Nat) (o:Oper) (t:List TV) (K:List TV->Prop):Prop:=
 match o.op with
 | .call {callee:= .value f,args, ..}=>NW X SP (args.toList.map (dw t)) (fun v=>Cb S v.zL t o.dst K) (ev t f)
 | .binOp op ty x y _=>(match vI Y op ty (dw t x) y with
  | some n=>(n=0->Cb S (.b (some true)) t o.dst K)/\Cb S (.b (some false)) t o.dst K
  | none=>(match nA op (dw t x) (dw t y) y with
   | some (k,c,hi)=>PZ c (∀r:Int,0<=r->r<=hi->Cb S (.i k (some r)) t o.dst K)
   | none=>SN S t o.dst K (top Y an t o)))
 | .lookup ty m x ok=>(match Kb Y ty (dw t m) with
  | some (ks,vs)=>Qb ok (dw t x) (fun v=>Cb S v.zL t o.dst K) ks vs
  | none=>SN S t o.dst K (top Y an t o))
 | _=>SN S t o.dst K (top Y an t o)
def Ke (v:TV) (k:TV->Prop):Prop:=match v with
 | .i .i64 none=>∀n:Int,-9223372036854775808<=n->n<=9223372036854775807->k (.i .i64 (some n))
 | .s T none=>∀n:Int,0<=n->n<=1000000000->k (.s T (some n))
 | .rg q m=>∀n:Int,0<=n->n<=m->k (.i q (some n))
 | v=>k v
noncomputable def Ga (f:TV->(TV->Prop)->Prop) (l:List TV):(List TV->Prop)->Prop:=
 List.rec (fun k=>k []) (fun a _ ih k=>f a fun a=>ih fun r=>k (a::r)) l
noncomputable def NY (f:TV->(TV->Prop)->Prop) (v:TV) (k:TV->Prop):Prop:=match v with
 | .agg cs=>Ga f cs fun cs=>k (.agg cs)
 | .aF cs=>Ga f cs fun cs=>k (.aF cs)
 | v=>f v k
noncomputable def Dj:TV->(TV->Prop)->Prop:=NY (NY (NY Ke))
noncomputable def gD (S:Nat) (G:List Nat) (d:Option Nat) (t:List TV) (K:List TV->Prop):Prop:=match d with
 | none=>K t
 | some d=>match slot t d with
  | .b none=>(match bK G d with
   | true=>lL S d (dK (.b (some true)) t d K/\dK (.b (some false)) t d K)
   | false=>K t)
  | .bp p=>(match bK G d with
   | true=>lL S d ((p->dK (.b (some true)) t d K)/\(¬p->dK (.b (some false)) t d K))
   | false=>K t)
  | .i k none=>lL S d (Dj (.i k none) fun v=>fU v fun v=>dK v t d K)
  | .s T none=>lL S d (Dj (.s T none) fun v=>fU v fun v=>dK v t d K)
  | .rg q m=>lL S d (Dj (.rg q m) fun v=>fU v fun v=>dK v t d K)
  | .agg cs=>lL S d (Dj (.agg cs) fun v=>fU v fun v=>dK v t d K)
  | .aF cs=>lL S d (Dj (.aF cs) fun v=>fU v fun v=>dK v t d K)
  | _=>K t
noncomputable def qJ (S:Nat) (ops:List Oper) (Q:List TV->Prop):List Oper->List TV->Prop
 | [],t=>Q t
 | o::l,t=>match dG ops t o with
  | .yes=>ZR X Y SP an S o t fun t=>gD S [] o.dst t fun t=>qJ S ops Q l t
  | .no=>Cb S .un t o.dst fun t=>qJ S ops Q l t
  | .may d want=>
   ((slot t d).holds want->lL S d (dK (.b (some want)) t d fun t=>ZR X Y SP an S o t fun t=>gD S [] o.dst t fun t=>qJ S ops Q l t))/\
   ((slot t d).holds (!want)->lL S d (dK (.b (some (!want))) t d fun t=>Cb S .un t o.dst fun t=>qJ S ops Q l t))
  | .bad=>False
noncomputable def o6 (S:Nat) (ops:List Oper) (G:List Nat) (o:Oper) (t:List TV) (K:List TV->Prop):Prop:=match dG ops t o with
 | .yes=>ZR X Y SP an S o t fun t=>gD S G o.dst t K
 | .no=>Cb S .un t o.dst K
 | _=>False
noncomputable def zT (S:Nat) (ops:List Oper) (G:List Nat) (Q:List TV->Prop):List Oper->List TV->Prop
 | [],t=>Q t
 | o::l,t=>o6 X Y SP an S ops G o t fun t=>zT S ops G Q l t
def ru:TV->Bool
 | .i _ _=>true
 | .b _=>true
 | .bp _=>true
 | .f=>true
 | .rg _ _=>true
 | .pn=>true
 | .bD=>true
 | _=>false
def lv1:TV->Bool
 | .s T _=>T.all ru
 | v=>ru v
def lv2:TV->Bool
 | .pb T=>T.all lv1
 | .np _ T=>T.all lv1
 | v=>lv1 v
def lvA:Bool->TV->Bool
 | true,v=>lv1 v
 | false,v=>ru v
def ZT:Bool->TV->Bool
 | true,v=>lv2 v
 | false,v=>lv1 v
def rowOk (b:Bool) (T:List TV):Bool:=T.all (lvA b)
def dC (es:List (Nat×List TV)) (i:Nat):Option (List TV):=match es with
 | []=>none
 | (e,T)::l=>match Nat.beq e i with
  | true=>some T
  | false=>dC l i
def Gb (x:Option (List TV)) (v:TV):TV:=match x with
 | some T=> .p T
 | none=>match ru v with
  | true=>v
  | false=> .bg
def NZ (v:TV):TV:=match ru v with
 | true=>v
 | false=> .bg
def nC (es:List (Nat×List TV)):Nat->List TV->List TV
 | _,[]=>[]
 | i,v::r=>Gb (dC es i) v::nC es (i+1) r
def kz (ds:List Nat):Nat->List TV->List TV->List TV
 | i,v::r,u::s=>(match bK ds i with
  | true=>NZ u
  | false=>v)::kz ds (i+1) r s
 | _,_,_=>[]
noncomputable def N7 (b:Bool) (t:List TV):List (Nat×List TV)->Option (Cs×List (Nat×List TV))
 | []=>some ([],[])
 | (e,T)::l=>match slot t e with
  | .ow cs=>(match N7 b t l with
   | some (c,r)=>(match dC r e with
    | some _=>none
    | none=>match T with
    | []=>if TV.atoms cs&&cs.all (ZT b)&&!rowOk b cs&&Nat.blt 0 cs.length then some (c,(e,cs)::r) else none
    | a::T=>(match TV.kL cs (a::T) with
     | some c2=>if TV.atoms cs&&(a::T).all (ZT b)&&!rowOk b (a::T) then some (c2++c,(e,a::T)::r) else none
     | none=>none))
   | none=>none)
  | _=>none
def dstsOf:List Oper->List Nat
 | []=>[]
 | o::l=>(match o.dst with
  | some d=>[d]
  | none=>[])++dstsOf l
def sW:List Oper->Bool
 | []=>true
 | o::l=>(match o.guard with
  | none=>true
  | some _=>false)&&sW l
noncomputable def Lt (t:List TV):List Nat->Bool
 | []=>true
 | d::l=>(match slot t d with
  | .ow _=>false
  | _=>true)&&Lt t l
def RO:List TV->List TV
 | []=>[]
 | .aac _ _::_=>[]
 | v::l=>v::RO l
def Lu:List TV->List (Nat×List TV)
 | []=>[]
 | .aac e _::l=>(e,RO l)::Lu l
 | _::l=>Lu l
def ZU (ops:List Oper):List (Nat×List TV):=match ops with
 | o::_=>(match o.dst with
  | some d=>(match an d with
   | some l=>Lu l
   | none=>[])
  | none=>[])
 | []=>[]
def ZV (ops:List Oper):Bool:=match ops with
 | o::_=>(match o.dst with
  | some d=>(match an d with
   | some (.aac _ 1::_)=>true
   | _=>false)
  | none=>false)
 | []=>false
def zU (S:Nat):List Nat->Prop->Prop
 | [],K=>K
 | d::l,K=>lL S d (zU S l K)
noncomputable def U1 (S:Nat) (k:List TV->Prop):List (Nat×List TV)->List TV->Prop
 | [],t=>k t
 | (e,T)::l,t=>lL S e (Ga Ke T fun cs=>lK cs fun cs=>dK (.ow cs) t e fun t=>U1 S k l t)
noncomputable def U2 (b:Bool) (S:Nat) (ops:List Oper) (es:List (Nat×List TV)) (Q:List TV->Prop) (t:List TV):Prop:=
 match sW ops&&Lt t (dstsOf ops)&&apart (es.map (·.1)) (dstsOf ops) with
 | false=>False
 | true=>match N7 b t es with
  | none=>False
  | some (c,L)=>PZ c (zU S (dstsOf ops) (qJ X Y SP (fun d=>match an d with
   | some (.aac _ _::_)=>some [.p (match L with
    | (_,T)::_=>T
    | []=>[])]
   | some x=>some x
   | none=>(match b with
    | true=>none
    | false=>some [.p (match L with
     | (_,T)::_=>T
     | []=>[])])) (2 ^ t.length - 1) ops (fun t'=>U1 S Q L (kz (dstsOf ops) 0 t t')) ops (nC L 0 t)))
def Gc (K:List TV->Prop) (Q:Exit->List TV->Prop):Exit->List TV->Prop
 | .normal,t=>K t
 | e,t=>Q e t
def sZ (id:Nat) (Q:Exit->List TV->Prop):Exit->List TV->Prop
 | .exit id',t=>(match Nat.beq id' id with
  | true=>Q .normal t
  | false=>Q (.exit id') t)
 | e,t=>Q e t
def RP (Q:Exit->List TV->Prop):Exit->List TV->Prop
 | .goto _,_=>False
 | e,t=>Q e t
def U3:List (Nat×TV)->List Nat
 | []=>[]
 | (d, .ow _)::l=>d::U3 l
 | _::l=>U3 l
def LI.owns (L:LI):List Nat:=U3 L.NS++L.keys
def without (l:List Nat):List Nat->List Nat
 | []=>[]
 | d::r=>match bK l d with
  | true=>without l r
  | false=>d::without l r
noncomputable def U4 (L:LI) (ss:List Nat) (xs:List Int) (t:List TV) (k:List TV->Prop):Prop:=
 RL ss t fun t=>RN (zQ L.NS xs) t k
noncomputable def Xd (L:LI) (ys:List Int) (t2:List TV):Prop:=match zP t2 L.NS with
 | none=>False
 | some (c,zs)=>PZ c (L.meas zs < L.meas ys/\0<=L.meas ys/\L.pre zs)
def U5 (S:Nat):List Nat->Prop->Prop
 | [],K=>K
 | d::l,K=>lL S d (U5 S l K)
noncomputable def U6 (S:Nat) (L:LI) (ss nm:List Nat) (body:Nat->(Exit->List TV->Prop)->List TV->Prop) (Q:Exit->List TV->Prop) (t:List TV):Prop:=
 match o5 ss L.NS with
 | false=>False
 | true=>NU S an (without L.owns nm) t fun t=>NV t fun t=>
  match zP t L.NS with
  | none=>False
  | some (c,xs)=>PZ c (L.pre xs/\allI (UX L.NS) fun ys=>L.pre ys->U4 L ss ys t
    (body (mask ss) (Gc (Xd L ys) Q)))
noncomputable def wUn (body:(Exit->List TV->Prop)->List TV->Prop) (Q:Exit->List TV->Prop):Nat->List TV->Prop:=
 Nat.rec (fun _=>False) (fun _ ih t=>body (Gc ih Q) t)
def U7 (Q:Exit->List TV->Prop) (t:List TV):Exit->List TV->Prop
 | .normal,_=>True
 | .exit i,_=>Q (.exit i) t
 | .ret,_=>Q .ret t
 | _,_=>False
noncomputable def Fj:List Nat->List TV->List TV->(List TV->Prop)->Prop
 | p::ps,a::ae,t,k=>fU a fun a=>dK a t p fun t=>Fj ps ae t k
 | _,_,t,k=>k t
noncomputable def U8 (S:Nat) (ps:Array Tmp) (nm:List Nat) (body:(Exit->List TV->Prop)->List TV->Prop) (Q:Exit->List TV->Prop) (g:Operand) (t:List TV):Prop:=
 NU S an nm t fun t=>match ev t g with
 | .fn f [] cs=>IT f cs (fun args=>args.length=ps.size/\UY t fun t1=>Fj ps.toList args t1 (body (U7 Q t)))/\Q .normal t
 | _=>False
noncomputable def wp:Code->Nat->(Exit->List TV->Prop)->List TV->Prop
 | .skip,_,Q,t=>Q .normal t
 | .label _,_,Q,t=>Q .normal t
 | .ret,_,Q,t=>Q .ret t
 | .exit i,_,Q,t=>Q (.exit i) t
 | .seq a b,S,Q,t=>wp a S (Gc (fun t=>wp b S Q t) Q) t
 | .cond c a b,S,Q,t=>(match ev t c with
  | .b (some true)=>wp a S Q t
  | .b (some false)=>wp b S Q t
  | .b none=>wp a S Q t/\wp b S Q t
  | .bp p=>(p->wp a S Q t)/\(¬p->wp b S Q t)
  | _=>False)
 | .block i (.loop a),S,Q,t=>match iv i with
  | some L=>(match L.un with
   | 0=>(match zP t L.obs with
    | none=>False
    | some (c,os)=>PZ c (U5 S (sets a++L.NS.map (·.1)++L.keys) (U6 an S (L.at os) (sets a++L.NS.map (·.1)++L.keys) (names a) (fun S Q t=>wp a S Q t) (sZ i Q) t)))
   | m+1=>wUn (fun Q t=>wp a S Q t) (sZ i Q) (m+1) t)
  | none=>False
 | .block i a,S,Q,t=>wp a S (sZ i Q) t
 | .scope a,S,Q,t=>wp a S (RP Q) t
 | .region _ ops dr,S,Q,t=>(match ZU an ops.toList with
  | e::es=>(match dr with
   | false=>NV t fun t=>U2 X Y SP an (ZV an ops.toList) S ops.toList (e::es) (fun t=>Q .normal t) t
   | true=>False)
  | []=>NU S an (UU ops.toList) t fun t=>(match dr with
  | false=>qJ X Y SP an S ops.toList (fun t=>Q .normal t) ops.toList t
  | true=>(match Qa ops.toList with
   | true=>NV t fun t=>zT X Y SP an S ops.toList (guards ops.toList ops.toList) (fun t=>Q .normal t) ops.toList t
   | false=>False)))
 | .rangeFunc g ps SQ body,S,Q,t=>(match fe SQ&&fe body with
  | true=>U8 IT an S ps (names SQ++names body) (fun Q t=>wp SQ S (Gc (fun t=>wp body S Q t) (fun _ _=>False)) t) Q g t
  | false=>False)
 | _,_,_,_=>False
noncomputable def U9 (t:List TV) (K:TV->Prop) (l:List ResultVar):Prop:=
 match I7 Y t l with
 | some vs=>fU (PY vs) K
 | none=>False
noncomputable def endT (fn:Func) (K:TV->Prop):Exit->List TV->Prop
 | .normal,t=>U9 Y t K fn.results.toList
 | .ret,t=>U9 Y t K fn.results.toList
 | _,_=>False
noncomputable def wFn (fn:Func) (args:List TV) (K:TV->Prop):Prop:=
 match fn.body with
 | some c=>wp X Y SP IT an iv c (2 ^ fn.ntmps - 1) (endT Y fn K) (args++List.replicate (fn.ntmps - args.length) .un)
 | none=>False
structure Alt where
 R:TV
 post:List Int->List Int->Prop
def Lv (xs:List Int) (v:TV):List Alt->Prop
 | []=>False
 | a::l=>match TV.sU a.R v with
  | some (c,ys)=>PZ c (a.post xs ys)\/Lv xs v l
  | none=>Lv xs v l
def Yf (v:TV) (k:TV->Prop):Prop:=match v with
 | .b none=>k (.b (some true))/\k (.b (some false))
 | .bp p=>(p->k (.b (some true)))/\(¬p->k (.b (some false)))
 | v=>k v
noncomputable def N8 (b:Bool) (v:TV) (k:TV->Prop):Prop:=match b with
 | false=>k v
 | true=>NY Yf v k
def N9 (xs:List Int) (K:TV->Prop):List Alt->Prop
 | []=>True
 | a::l=>allI (TV.cnt a.R) (fun ys=>a.post xs ys->K (TV.fill a.R ys).1)/\N9 xs K l
end
structure aab where
 A:List TV
 pre:List Int->Prop
 R:List Alt
 fork:Bool
 rank:Nat
def Qc (tab:FuncId->List TV->Option aab) (r:Nat):Spec:=fun f l K=>match tab f l with
 | none=>False
 | some F=>match Nat.blt F.rank r with
  | false=>False
  | true=>match TV.oW F.A l with
   | none=>False
   | some (c,xs)=>PZ c (F.pre xs/\N9 xs K F.R)
end Go.TM
namespace Go.Proofs.YtgledbghdhjgkaaGreatDoor
open Go Go.TM
set_option maxRecDepth 100000
def tk2:TK:=⟨.int .i64,1,8,[.i .i64 (some 0)],[.i .i64 none],false⟩
def tk3:TK:=⟨.int .i64,1,8,[.i .i64 (some 0)],[.i .i64 none],false⟩
def tk4:TK:=⟨.bool,1,1,[.b (some false)],[.b none],false⟩
def tk5:TK:=⟨.int .u8,1,1,[.i .u8 (some 0)],[.i .u8 none],false⟩
def tk22:TK:=⟨.slice 4,1,24,[.val (.slice none 0 0)],[.s [.b none] none],false⟩
def tk23:TK:=⟨.func #[] #[4] false,1,8,[.bD],[],false⟩
def tk24:TK:=⟨.slice 25,1,24,[.val (.slice none 0 0)],[.s [.i .u64 none] none],false⟩
def tk25:TK:=⟨.int .u64,1,8,[.i .u64 (some 0)],[.i .u64 none],false⟩
def tk26:TK:=⟨.slice 35,1,24,[.val (.slice none 0 0)],[.s [.i .i64 none] none],false⟩
def tk28:TK:=⟨.int .i64,1,8,[.i .i64 (some 0)],[.i .i64 none],false⟩
def tk29:TK:=⟨.slice 38,1,24,[.val (.slice none 0 0)],[.s [.f] none],false⟩
def tk31:TK:=⟨.struct #[{name:= "Rows",type:=3,offset:=0,embedded:=false,tag:= "",pkgPath:= "",byteOffset:=0},{name:= "Cols",type:=3,offset:=1,embedded:=false,tag:= "",pkgPath:= "",byteOffset:=8},{name:= "Data",type:=29,offset:=2,embedded:=false,tag:= "",pkgPath:= "",byteOffset:=16}],3,40,[.i .i64 (some 0), .i .i64 (some 0), .val (.slice none 0 0)],[.i .i64 none, .i .i64 none, .s [.f] none],false⟩
def tk33:TK:=⟨.struct #[{name:= "Code",type:=28,offset:=0,embedded:=false,tag:= "",pkgPath:= "",byteOffset:=0},{name:= "S",type:=29,offset:=1,embedded:=false,tag:= "",pkgPath:= "",byteOffset:=8},{name:= "U",type:=31,offset:=2,embedded:=false,tag:= "",pkgPath:= "",byteOffset:=32},{name:= "V",type:=31,offset:=5,embedded:=false,tag:= "",pkgPath:= "",byteOffset:=72},{name:= "Steps",type:=3,offset:=8,embedded:=false,tag:= "",pkgPath:= "",byteOffset:=112}],9,120,[.i .i64 (some 0), .val (.slice none 0 0), .i .i64 (some 0), .i .i64 (some 0), .val (.slice none 0 0), .i .i64 (some 0), .i .i64 (some 0), .val (.slice none 0 0), .i .i64 (some 0)],[.i .i64 none, .s [.f] none, .i .i64 none, .i .i64 none, .s [.f] none, .i .i64 none, .i .i64 none, .s [.f] none, .i .i64 none],false⟩
def tk35:TK:=⟨.int .i64,1,8,[.i .i64 (some 0)],[.i .i64 none],false⟩
def tk38:TK:=⟨.float .f64,1,8,[.f],[.f],false⟩
def tk39:TK:=⟨.slice 44,1,24,[.val (.slice none 0 0)],[.s [.i .i64 none] none],false⟩
def tk42:TK:=⟨.struct #[{name:= "Code",type:=28,offset:=0,embedded:=false,tag:= "",pkgPath:= "",byteOffset:=0},{name:= "W",type:=29,offset:=1,embedded:=false,tag:= "",pkgPath:= "",byteOffset:=8},{name:= "Z",type:=31,offset:=2,embedded:=false,tag:= "",pkgPath:= "",byteOffset:=32},{name:= "Steps",type:=3,offset:=5,embedded:=false,tag:= "",pkgPath:= "",byteOffset:=72}],6,80,[.i .i64 (some 0), .val (.slice none 0 0), .i .i64 (some 0), .i .i64 (some 0), .val (.slice none 0 0), .i .i64 (some 0)],[.i .i64 none, .s [.f] none, .i .i64 none, .i .i64 none, .s [.f] none, .i .i64 none],false⟩
def tk44:TK:=⟨.int .i64,1,8,[.i .i64 (some 0)],[.i .i64 none],false⟩
def tk56:TK:=⟨.int .i64,1,8,[.i .i64 (some 0)],[.i .i64 none],false⟩
def tk58:TK:=⟨.struct #[{name:= "s",type:=29,offset:=0,embedded:=false,tag:= "",pkgPath:= "plumbline/svd",byteOffset:=0},{name:= "u",type:=31,offset:=1,embedded:=false,tag:= "",pkgPath:= "plumbline/svd",byteOffset:=24},{name:= "v",type:=31,offset:=4,embedded:=false,tag:= "",pkgPath:= "plumbline/svd",byteOffset:=64},{name:= "steps",type:=3,offset:=7,embedded:=false,tag:= "",pkgPath:= "plumbline/svd",byteOffset:=104},{name:= "e",type:=56,offset:=8,embedded:=false,tag:= "",pkgPath:= "plumbline/svd",byteOffset:=112}],9,120,[.val (.slice none 0 0), .i .i64 (some 0), .i .i64 (some 0), .val (.slice none 0 0), .i .i64 (some 0), .i .i64 (some 0), .val (.slice none 0 0), .i .i64 (some 0), .i .i64 (some 0)],[.s [.f] none, .i .i64 none, .i .i64 none, .s [.f] none, .i .i64 none, .i .i64 none, .s [.f] none, .i .i64 none, .i .i64 none],false⟩
def tk59:TK:=⟨.func #[31] #[58] false,1,8,[.bD],[],false⟩
def tk60:TK:=⟨.map 63 59,1,8,[.val (.map none)],[],false⟩
def tk63:TK:=⟨.array 2 3,2,16,[.i .i64 (some 0), .i .i64 (some 0)],[.i .i64 none, .i .i64 none],false⟩
def tk68:TK:=⟨.struct #[{name:= "Neg",type:=4,offset:=0,embedded:=false,tag:= "",pkgPath:= "",byteOffset:=0},{name:= "M",type:=24,offset:=1,embedded:=false,tag:= "",pkgPath:= "",byteOffset:=8},{name:= "E",type:=3,offset:=2,embedded:=false,tag:= "",pkgPath:= "",byteOffset:=32}],3,40,[.b (some false), .val (.slice none 0 0), .i .i64 (some 0)],[.b none, .s [.i .u64 none] none, .i .i64 none],false⟩
def tk78:TK:=⟨.func #[84,31] #[29,31,3,56] false,1,8,[.bD],[],false⟩
def tk80:TK:=⟨.map 44 78,1,8,[.val (.map none)],[],false⟩
def tk84:TK:=⟨.struct #[{name:= "D",type:=29,offset:=0,embedded:=false,tag:= "",pkgPath:= "",byteOffset:=0},{name:= "E",type:=29,offset:=1,embedded:=false,tag:= "",pkgPath:= "",byteOffset:=24}],2,48,[.val (.slice none 0 0), .val (.slice none 0 0)],[.s [.f] none, .s [.f] none],false⟩
def tk90:TK:=⟨.func #[25] #[4] false,1,8,[.bD],[],false⟩
def tk91:TK:=⟨.int .u64,1,8,[.i .u64 (some 0)],[.i .u64 none],false⟩
def Yg:TK:=⟨.func #[3,3] #[4] false,1,8,[.bD],[],false⟩
def Yh:TK:=⟨.struct #[{name:= "rows",type:=3,offset:=0,embedded:=false,tag:= "",pkgPath:= "plumbline/cert",byteOffset:=0},{name:= "cols",type:=3,offset:=1,embedded:=false,tag:= "",pkgPath:= "plumbline/cert",byteOffset:=8}],2,16,[.i .i64 (some 0), .i .i64 (some 0)],[.i .i64 none, .i .i64 none],true⟩
def Yi:TK:=⟨.func #[3,3] #[68,56] false,1,8,[.bD],[],false⟩
def Yj:TK:=⟨.func #[] #[4,56] false,1,8,[.bD],[],false⟩
def Yk:TK:=⟨.slice 178,1,24,[.val (.slice none 0 0)],[.s [.s [.f] none, .f] none],false⟩
def Yl:TK:=⟨.struct #[{name:= "Neg",type:=4,offset:=0,embedded:=false,tag:= "",pkgPath:= "",byteOffset:=0},{name:= "Man",type:=25,offset:=1,embedded:=false,tag:= "",pkgPath:= "",byteOffset:=8},{name:= "Exp",type:=3,offset:=2,embedded:=false,tag:= "",pkgPath:= "",byteOffset:=16}],3,24,[.b (some false), .i .u64 (some 0), .i .i64 (some 0)],[.b none, .i .u64 none, .i .i64 none],false⟩
def Ym:TK:=⟨.func #[31] #[4] false,1,8,[.bD],[],false⟩
def Yn:TK:=⟨.struct #[{name:= "D",type:=29,offset:=0,embedded:=false,tag:= "",pkgPath:= "",byteOffset:=0},{name:= "E",type:=29,offset:=1,embedded:=false,tag:= "",pkgPath:= "",byteOffset:=24}],2,48,[.val (.slice none 0 0), .val (.slice none 0 0)],[.s [.f] none, .s [.f] none],false⟩
def Yo:TK:=⟨.slice 31,1,24,[.val (.slice none 0 0)],[.s [.i .i64 none, .i .i64 none, .s [.f] none] none],false⟩
def Yp:TK:=⟨.slice 29,1,24,[.val (.slice none 0 0)],[.s [.s [.f] none] none],false⟩
def Yq:TK:=⟨.func #[38] #[4] false,1,8,[.bD],[],false⟩
def Yr:TK:=⟨.slice 68,1,24,[.val (.slice none 0 0)],[.s [.b none, .s [.i .u64 none] none, .i .i64 none] none],false⟩
def Yt:TK:=⟨.slice 118,1,24,[.val (.slice none 0 0)],[],false⟩
def Yu:TK:=⟨.struct #[{name:= "V",type:=29,offset:=0,embedded:=false,tag:= "",pkgPath:= "",byteOffset:=0},{name:= "Tau",type:=38,offset:=1,embedded:=false,tag:= "",pkgPath:= "",byteOffset:=24}],2,32,[.val (.slice none 0 0), .f],[.s [.f] none, .f],false⟩
def Yv:TK:=⟨.func #[3] #[38] false,1,8,[.bD],[],false⟩
def Yw:TK:=⟨.int .i64,1,8,[.i .i64 (some 0)],[.i .i64 none],false⟩
def Yx:TK:=⟨.pointer 276,1,8,[.pn],[],false⟩
def Yy:TK:=⟨.struct #[{name:= "s",type:=195,offset:=0,embedded:=false,tag:= "",pkgPath:= "plumbline/view",byteOffset:=0},{name:= "rows",type:=3,offset:=1,embedded:=false,tag:= "",pkgPath:= "plumbline/view",byteOffset:=8},{name:= "cols",type:=3,offset:=2,embedded:=false,tag:= "",pkgPath:= "plumbline/view",byteOffset:=16},{name:= "at",type:=3,offset:=3,embedded:=false,tag:= "",pkgPath:= "plumbline/view",byteOffset:=24},{name:= "down",type:=3,offset:=4,embedded:=false,tag:= "",pkgPath:= "plumbline/view",byteOffset:=32},{name:= "out",type:=3,offset:=5,embedded:=false,tag:= "",pkgPath:= "plumbline/view",byteOffset:=40}],6,48,[.pn, .i .i64 (some 0), .i .i64 (some 0), .i .i64 (some 0), .i .i64 (some 0), .i .i64 (some 0)],[],false⟩
def Yz:TK:=⟨.pointer 202,1,8,[.pn],[],false⟩
def YA:TK:=⟨.struct #[{name:= "a",type:=31,offset:=0,embedded:=false,tag:= "",pkgPath:= "plumbline/bidiag",byteOffset:=0}],3,40,[.i .i64 (some 0), .i .i64 (some 0), .val (.slice none 0 0)],[.i .i64 none, .i .i64 none, .s [.f] none],false⟩
def YB:TK:=⟨.pointer 212,1,8,[.pn],[],false⟩
def YC:TK:=⟨.struct #[{name:= "d",type:=29,offset:=0,embedded:=false,tag:= "",pkgPath:= "plumbline/gk",byteOffset:=0},{name:= "e",type:=29,offset:=1,embedded:=false,tag:= "",pkgPath:= "plumbline/gk",byteOffset:=24},{name:= "u",type:=31,offset:=2,embedded:=false,tag:= "",pkgPath:= "plumbline/gk",byteOffset:=48},{name:= "v",type:=31,offset:=5,embedded:=false,tag:= "",pkgPath:= "plumbline/gk",byteOffset:=88},{name:= "big",type:=38,offset:=8,embedded:=false,tag:= "",pkgPath:= "plumbline/gk",byteOffset:=128}],9,136,[.val (.slice none 0 0), .val (.slice none 0 0), .i .i64 (some 0), .i .i64 (some 0), .val (.slice none 0 0), .i .i64 (some 0), .i .i64 (some 0), .val (.slice none 0 0), .f],[.s [.f] none, .s [.f] none, .i .i64 none, .i .i64 none, .s [.f] none, .i .i64 none, .i .i64 none, .s [.f] none, .f],false⟩
def YD:TK:=⟨.func #[38,38] #[38,38] false,1,8,[.bD],[],false⟩
def YE:TK:=⟨.pointer 68,1,8,[.pn],[],false⟩
def YF:TK:=⟨.struct #[{name:= "e",type:=3,offset:=0,embedded:=false,tag:= "",pkgPath:= "plumbline/dyad",byteOffset:=0}],1,8,[.i .i64 (some 0)],[.i .i64 none],true⟩
def YG:TK:=⟨.struct #[{name:= "scale",type:=243,offset:=0,embedded:=true,tag:= "",pkgPath:= "plumbline/dyad",byteOffset:=0},{name:= "a",type:=24,offset:=1,embedded:=false,tag:= "",pkgPath:= "plumbline/dyad",byteOffset:=8},{name:= "b",type:=24,offset:=2,embedded:=false,tag:= "",pkgPath:= "plumbline/dyad",byteOffset:=32}],3,56,[.i .i64 (some 0), .val (.slice none 0 0), .val (.slice none 0 0)],[.i .i64 none, .s [.i .u64 none] none, .s [.i .u64 none] none],false⟩
def YH:TK:=⟨.pointer 253,1,8,[.pn],[],false⟩
def YI:TK:=⟨.struct #[{name:= "d",type:=29,offset:=0,embedded:=false,tag:= "",pkgPath:= "plumbline/ql",byteOffset:=0},{name:= "e",type:=29,offset:=1,embedded:=false,tag:= "",pkgPath:= "plumbline/ql",byteOffset:=24},{name:= "z",type:=31,offset:=2,embedded:=false,tag:= "",pkgPath:= "plumbline/ql",byteOffset:=48}],5,88,[.val (.slice none 0 0), .val (.slice none 0 0), .i .i64 (some 0), .i .i64 (some 0), .val (.slice none 0 0)],[.s [.f] none, .s [.f] none, .i .i64 none, .i .i64 none, .s [.f] none],false⟩
def YJ:TK:=⟨.func #[2] #[3] false,1,8,[.bD],[],false⟩
def YK:TK:=⟨.struct #[{name:= "low",type:=2,offset:=0,embedded:=false,tag:= "",pkgPath:= "plumbline/sturm",byteOffset:=0},{name:= "high",type:=2,offset:=1,embedded:=false,tag:= "",pkgPath:= "plumbline/sturm",byteOffset:=8},{name:= "count",type:=258,offset:=2,embedded:=false,tag:= "",pkgPath:= "plumbline/sturm",byteOffset:=16}],3,24,[.i .i64 (some 0), .i .i64 (some 0), .bD],[],false⟩
def YL:TK:=⟨.slice 3,1,24,[.val (.slice none 0 0)],[.s [.i .i64 none] none],false⟩
def YM:TK:=⟨.struct #[{name:= "f",type:=29,offset:=0,embedded:=false,tag:= "",pkgPath:= "plumbline/view",byteOffset:=0}],1,24,[.val (.slice none 0 0)],[.s [.f] none],false⟩
def YN:TK:=⟨.slice 197,1,24,[.val (.slice none 0 0)],[],false⟩
def YO:TK:=⟨.slice 233,1,24,[.val (.slice none 0 0)],[],false⟩
def YP:TK:=⟨.pointer 24,1,8,[.pn],[],false⟩
def YQ:TK:=⟨.map 316 3,1,8,[.val (.map none)],[],false⟩
def YR:TK:=⟨.array 1 25,1,8,[.i .u64 (some 0)],[.i .u64 none],false⟩
def YS:TK:=⟨.struct #[{name:= "A",type:=29,offset:=0,embedded:=false,tag:= "",pkgPath:= "",byteOffset:=0},{name:= "B",type:=29,offset:=1,embedded:=false,tag:= "",pkgPath:= "",byteOffset:=24},{name:= "C",type:=29,offset:=2,embedded:=false,tag:= "",pkgPath:= "",byteOffset:=48},{name:= "L",type:=29,offset:=3,embedded:=false,tag:= "",pkgPath:= "",byteOffset:=72},{name:= "Swapped",type:=22,offset:=4,embedded:=false,tag:= "",pkgPath:= "",byteOffset:=96}],5,120,[.val (.slice none 0 0), .val (.slice none 0 0), .val (.slice none 0 0), .val (.slice none 0 0), .val (.slice none 0 0)],[.s [.f] none, .s [.f] none, .s [.f] none, .s [.f] none, .s [.b none] none],false⟩
def YT:TK:=⟨.pointer 333,1,8,[.pn],[],false⟩
def YU:TK:=⟨.struct #[{name:= "n",type:=3,offset:=0,embedded:=false,tag:= "",pkgPath:= "plumbline/dandc",byteOffset:=0},{name:= "d",type:=29,offset:=1,embedded:=false,tag:= "",pkgPath:= "plumbline/dandc",byteOffset:=8},{name:= "z",type:=29,offset:=2,embedded:=false,tag:= "",pkgPath:= "plumbline/dandc",byteOffset:=32},{name:= "q",type:=31,offset:=3,embedded:=false,tag:= "",pkgPath:= "plumbline/dandc",byteOffset:=56},{name:= "r",type:=38,offset:=6,embedded:=false,tag:= "",pkgPath:= "plumbline/dandc",byteOffset:=96},{name:= "kept",type:=264,offset:=7,embedded:=false,tag:= "",pkgPath:= "plumbline/dandc",byteOffset:=104},{name:= "left",type:=264,offset:=8,embedded:=false,tag:= "",pkgPath:= "plumbline/dandc",byteOffset:=128}],9,152,[.i .i64 (some 0), .val (.slice none 0 0), .val (.slice none 0 0), .i .i64 (some 0), .i .i64 (some 0), .val (.slice none 0 0), .f, .val (.slice none 0 0), .val (.slice none 0 0)],[.i .i64 none, .s [.f] none, .s [.f] none, .i .i64 none, .i .i64 none, .s [.f] none, .f, .s [.i .i64 none] none, .s [.i .i64 none] none],false⟩
def YV:TK:=⟨.func #[3,3] #[3] false,1,8,[.bD],[],false⟩
def YW:TK:=⟨.slice 303,1,24,[.val (.slice none 0 0)],[],false⟩
def YX:TK:=⟨.array 64 5,64,64,[.i .u8 (some 0), .i .u8 (some 0), .i .u8 (some 0), .i .u8 (some 0), .i .u8 (some 0), .i .u8 (some 0), .i .u8 (some 0), .i .u8 (some 0), .i .u8 (some 0), .i .u8 (some 0), .i .u8 (some 0), .i .u8 (some 0), .i .u8 (some 0), .i .u8 (some 0), .i .u8 (some 0), .i .u8 (some 0), .i .u8 (some 0), .i .u8 (some 0), .i .u8 (some 0), .i .u8 (some 0), .i .u8 (some 0), .i .u8 (some 0), .i .u8 (some 0), .i .u8 (some 0), .i .u8 (some 0), .i .u8 (some 0), .i .u8 (some 0), .i .u8 (some 0), .i .u8 (some 0), .i .u8 (some 0), .i .u8 (some 0), .i .u8 (some 0), .i .u8 (some 0), .i .u8 (some 0), .i .u8 (some 0), .i .u8 (some 0), .i .u8 (some 0), .i .u8 (some 0), .i .u8 (some 0), .i .u8 (some 0), .i .u8 (some 0), .i .u8 (some 0), .i .u8 (some 0), .i .u8 (some 0), .i .u8 (some 0), .i .u8 (some 0), .i .u8 (some 0), .i .u8 (some 0), .i .u8 (some 0), .i .u8 (some 0), .i .u8 (some 0), .i .u8 (some 0), .i .u8 (some 0), .i .u8 (some 0), .i .u8 (some 0), .i .u8 (some 0), .i .u8 (some 0), .i .u8 (some 0), .i .u8 (some 0), .i .u8 (some 0), .i .u8 (some 0), .i .u8 (some 0), .i .u8 (some 0), .i .u8 (some 0)],[.i .u8 none, .i .u8 none, .i .u8 none, .i .u8 none, .i .u8 none, .i .u8 none, .i .u8 none, .i .u8 none, .i .u8 none, .i .u8 none, .i .u8 none, .i .u8 none, .i .u8 none, .i .u8 none, .i .u8 none, .i .u8 none, .i .u8 none, .i .u8 none, .i .u8 none, .i .u8 none, .i .u8 none, .i .u8 none, .i .u8 none, .i .u8 none, .i .u8 none, .i .u8 none, .i .u8 none, .i .u8 none, .i .u8 none, .i .u8 none, .i .u8 none, .i .u8 none, .i .u8 none, .i .u8 none, .i .u8 none, .i .u8 none, .i .u8 none, .i .u8 none, .i .u8 none, .i .u8 none, .i .u8 none, .i .u8 none, .i .u8 none, .i .u8 none, .i .u8 none, .i .u8 none, .i .u8 none, .i .u8 none, .i .u8 none, .i .u8 none, .i .u8 none, .i .u8 none, .i .u8 none, .i .u8 none, .i .u8 none, .i .u8 none, .i .u8 none, .i .u8 none, .i .u8 none, .i .u8 none, .i .u8 none, .i .u8 none, .i .u8 none, .i .u8 none],false⟩
def YY:TK:=⟨.struct #[{name:= "D",type:=29,offset:=0,embedded:=false,tag:= "",pkgPath:= "",byteOffset:=0},{name:= "Z",type:=29,offset:=1,embedded:=false,tag:= "",pkgPath:= "",byteOffset:=24},{name:= "Rho",type:=38,offset:=2,embedded:=false,tag:= "",pkgPath:= "",byteOffset:=48}],3,56,[.val (.slice none 0 0), .val (.slice none 0 0), .f],[.s [.f] none, .s [.f] none, .f],false⟩
def YZ:TK:=⟨.slice 371,1,24,[.val (.slice none 0 0)],[.s [.i .i64 none, .f] none],false⟩
def Y0:TK:=⟨.struct #[{name:= "At",type:=3,offset:=0,embedded:=false,tag:= "",pkgPath:= "",byteOffset:=0},{name:= "Off",type:=38,offset:=1,embedded:=false,tag:= "",pkgPath:= "",byteOffset:=8}],2,16,[.i .i64 (some 0), .f],[.i .i64 none, .f],false⟩
def Y1:TK:=⟨.map 375 4,1,8,[.val (.map none)],[],false⟩
def Y2:TK:=⟨.array 1 3,1,8,[.i .i64 (some 0)],[.i .i64 none],false⟩
def Y3:TK:=⟨.int .i64,1,8,[.i .i64 (some 0)],[.i .i64 none],false⟩
def Y4:TK:=⟨.int .u32,1,4,[.i .u32 (some 0)],[.i .u32 none],false⟩
def Y5:TK:=⟨.int .u64,1,8,[.i .u64 (some 0)],[.i .u64 none],false⟩
def Y6:TK:=⟨.pointer 3,1,8,[.pn],[],false⟩
def Y7:iM:=⟨fun n=>(bif Nat.blt n 158 then (bif Nat.blt n 59 then (bif Nat.blt n 29 then (bif Nat.blt n 23 then (bif Nat.blt n 4 then (bif Nat.blt n 3 then (bif Nat.beq n 2 then some tk2 else none) else (bif Nat.beq n 3 then some tk3 else none)) else (bif Nat.blt n 5 then (bif Nat.beq n 4 then some tk4 else none) else (bif Nat.blt n 22 then (bif Nat.beq n 5 then some tk5 else none) else (bif Nat.beq n 22 then some tk22 else none)))) else (bif Nat.blt n 25 then (bif Nat.blt n 24 then (bif Nat.beq n 23 then some tk23 else none) else (bif Nat.beq n 24 then some tk24 else none)) else (bif Nat.blt n 26 then (bif Nat.beq n 25 then some tk25 else none) else (bif Nat.blt n 28 then (bif Nat.beq n 26 then some tk26 else none) else (bif Nat.beq n 28 then some tk28 else none))))) else (bif Nat.blt n 39 then (bif Nat.blt n 33 then (bif Nat.blt n 31 then (bif Nat.beq n 29 then some tk29 else none) else (bif Nat.beq n 31 then some tk31 else none)) else (bif Nat.blt n 35 then (bif Nat.beq n 33 then some tk33 else none) else (bif Nat.blt n 38 then (bif Nat.beq n 35 then some tk35 else none) else (bif Nat.beq n 38 then some tk38 else none)))) else (bif Nat.blt n 44 then (bif Nat.blt n 42 then (bif Nat.beq n 39 then some tk39 else none) else (bif Nat.beq n 42 then some tk42 else none)) else (bif Nat.blt n 56 then (bif Nat.beq n 44 then some tk44 else none) else (bif Nat.blt n 58 then (bif Nat.beq n 56 then some tk56 else none) else (bif Nat.beq n 58 then some tk58 else none)))))) else (bif Nat.blt n 109 then (bif Nat.blt n 80 then (bif Nat.blt n 63 then (bif Nat.blt n 60 then (bif Nat.beq n 59 then some tk59 else none) else (bif Nat.beq n 60 then some tk60 else none)) else (bif Nat.blt n 68 then (bif Nat.beq n 63 then some tk63 else none) else (bif Nat.blt n 78 then (bif Nat.beq n 68 then some tk68 else none) else (bif Nat.beq n 78 then some tk78 else none)))) else (bif Nat.blt n 90 then (bif Nat.blt n 84 then (bif Nat.beq n 80 then some tk80 else none) else (bif Nat.beq n 84 then some tk84 else none)) else (bif Nat.blt n 91 then (bif Nat.beq n 90 then some tk90 else none) else (bif Nat.blt n 100 then (bif Nat.beq n 91 then some tk91 else none) else (bif Nat.beq n 100 then some Yg else none))))) else (bif Nat.blt n 141 then (bif Nat.blt n 118 then (bif Nat.blt n 113 then (bif Nat.beq n 109 then some Yh else none) else (bif Nat.beq n 113 then some Yi else none)) else (bif Nat.blt n 125 then (bif Nat.beq n 118 then some Yj else none) else (bif Nat.blt n 135 then (bif Nat.beq n 125 then some Yk else none) else (bif Nat.beq n 135 then some Yl else none)))) else (bif Nat.blt n 149 then (bif Nat.blt n 142 then (bif Nat.beq n 141 then some Ym else none) else (bif Nat.beq n 142 then some Yn else none)) else (bif Nat.blt n 151 then (bif Nat.beq n 149 then some Yo else none) else (bif Nat.blt n 153 then (bif Nat.beq n 151 then some Yp else none) else (bif Nat.beq n 153 then some Yq else none))))))) else (bif Nat.blt n 276 then (bif Nat.blt n 212 then (bif Nat.blt n 195 then (bif Nat.blt n 178 then (bif Nat.blt n 161 then (bif Nat.beq n 158 then some Yr else none) else (bif Nat.beq n 161 then some Yt else none)) else (bif Nat.blt n 181 then (bif Nat.beq n 178 then some Yu else none) else (bif Nat.blt n 190 then (bif Nat.beq n 181 then some Yv else none) else (bif Nat.beq n 190 then some Yw else none)))) else (bif Nat.blt n 200 then (bif Nat.blt n 197 then (bif Nat.beq n 195 then some Yx else none) else (bif Nat.beq n 197 then some Yy else none)) else (bif Nat.blt n 202 then (bif Nat.beq n 200 then some Yz else none) else (bif Nat.blt n 210 then (bif Nat.beq n 202 then some YA else none) else (bif Nat.beq n 210 then some YB else none))))) else (bif Nat.blt n 251 then (bif Nat.blt n 233 then (bif Nat.blt n 218 then (bif Nat.beq n 212 then some YC else none) else (bif Nat.beq n 218 then some YD else none)) else (bif Nat.blt n 243 then (bif Nat.beq n 233 then some YE else none) else (bif Nat.blt n 245 then (bif Nat.beq n 243 then some YF else none) else (bif Nat.beq n 245 then some YG else none)))) else (bif Nat.blt n 258 then (bif Nat.blt n 253 then (bif Nat.beq n 251 then some YH else none) else (bif Nat.beq n 253 then some YI else none)) else (bif Nat.blt n 260 then (bif Nat.beq n 258 then some YJ else none) else (bif Nat.blt n 264 then (bif Nat.beq n 260 then some YK else none) else (bif Nat.beq n 264 then some YL else none)))))) else (bif Nat.blt n 348 then (bif Nat.blt n 316 then (bif Nat.blt n 301 then (bif Nat.blt n 295 then (bif Nat.beq n 276 then some YM else none) else (bif Nat.beq n 295 then some YN else none)) else (bif Nat.blt n 303 then (bif Nat.beq n 301 then some YO else none) else (bif Nat.blt n 313 then (bif Nat.beq n 303 then some YP else none) else (bif Nat.beq n 313 then some YQ else none)))) else (bif Nat.blt n 331 then (bif Nat.blt n 323 then (bif Nat.beq n 316 then some YR else none) else (bif Nat.beq n 323 then some YS else none)) else (bif Nat.blt n 333 then (bif Nat.beq n 331 then some YT else none) else (bif Nat.blt n 338 then (bif Nat.beq n 333 then some YU else none) else (bif Nat.beq n 338 then some YV else none))))) else (bif Nat.blt n 374 then (bif Nat.blt n 365 then (bif Nat.blt n 352 then (bif Nat.beq n 348 then some YW else none) else (bif Nat.beq n 352 then some YX else none)) else (bif Nat.blt n 366 then (bif Nat.beq n 365 then some YY else none) else (bif Nat.blt n 371 then (bif Nat.beq n 366 then some YZ else none) else (bif Nat.beq n 371 then some Y0 else none)))) else (bif Nat.blt n 396 then (bif Nat.blt n 375 then (bif Nat.beq n 374 then some Y1 else none) else (bif Nat.blt n 389 then (bif Nat.beq n 375 then some Y2 else none) else (bif Nat.beq n 389 then some Y3 else none))) else (bif Nat.blt n 398 then (bif Nat.beq n 396 then some Y4 else none) else (bif Nat.blt n 402 then (bif Nat.beq n 398 then some Y5 else none) else (bif Nat.beq n 402 then some Y6 else none)))))))),0,0,0,fun _=>0⟩
end Go.Proofs.YtgledbghdhjgkaaGreatDoor
