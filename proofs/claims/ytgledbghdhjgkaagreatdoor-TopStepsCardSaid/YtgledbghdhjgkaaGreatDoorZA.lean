/-
  A part of the proof that TopSteps answers true for every input that can be read as data.
-/
import Derived.WalkKit
import Derived.Below
import Derived.OrdersIn
import Derived.RangeFuncLeaves
import Derived.Laws.FloatArith
set_option linter.unusedSimpArgs false
set_option linter.unusedVariables false
namespace Go.AM
open Go Go.RowKit
inductive FD where
 | top | zr | k (w:Nat)
 deriving DecidableEq
inductive AV where
 | b (x:Option Bool)
 | i (k:IntKind) (x:Option Int)
 | f (x:FD)
 | p (a:Option (Nat×Nat))
 | s (a:Option (Nat×Nat)) (n:Nat) (c:Option Nat) (e:Nat)
 | m (r:Option Nat)
 | fn (g:Fn) (fs cs:List AV)
 | bD
 | agg (cs:List AV)
 | aF (cs:List AV)
 | bg
structure aZ where
 at_:Nat->Nat
 sz:Nat->Nat
def aZ.fn (σ:aZ):Fn->Fn
 | .yield l=> .yield (σ.at_ l)
 | g=>g
def IV (N:Nat):Fn->Prop
 | .yield l=>l < N
 | _=>True
mutual
def af (σ:aZ) (N:Nat):AV->Value->Prop
 | .b none,v=>∃x,v= .bool x
 | .b (some x),v=>v= .bool x
 | .i k none,v=>∃n,v= .int k n/\k.has n
 | .i k (some n),v=>v= .int k n
 | .f .top,v=>∃x,v= .float .f64 x/\x < 18446744073709551616
 | .f .zr,v=>v= .float .f64 0\/v= .float .f64 9223372036854775808
 | .f (.k x),v=>v= .float .f64 x
 | .p none,v=>v= .pointer none
 | .p (some (d,o)),v=>d < N/\v= .pointer (some ⟨σ.at_ d,o,none⟩)
 | .s none n _ _,v=>n=0/\v= .slice none 0 0
 | .s (some (d,o)) n c e,v=>d < N/\∃A C,v= .slice A n C/\(∀c',c=some c'->C=c')/\(C≠0->A=some ⟨σ.at_ d,o,none⟩/\n<=C/\o+C*e<=σ.sz d)/\A≠none/\n<=C
 | .m none,v=>v= .map none
 | .m (some r),v=>r < N/\v= .map (some (σ.at_ r))
 | .fn g fs cs,v=>IV N g/\∃vs us,v= .func (σ.fn g) vs us/\ai σ N fs vs.toList/\ai σ N cs us.toList
 | .bD,v=>v= .nilFunc
 | .agg cs,v=>∃vs,v= .agg vs/\ai σ N cs vs.toList
 | .aF cs,v=>∃vs,v= .tuple vs/\ai σ N cs vs.toList
 | .bg,_=>True
def ai (σ:aZ) (N:Nat):List AV->List Value->Prop
 | [],vs=>vs=[]
 | a::ae,vs=>∃v r,vs=v::r/\af σ N a v/\ai σ N ae r
end
structure Ext (σ:aZ) (N:Nat) (σ':aZ) (N':Nat):Prop where
 le:N<=N'
 at_:∀d,d < N->σ'.at_ d=σ.at_ d
 sz:∀d,d < N->σ'.sz d=σ.sz d
theorem Ext.refl (σ:aZ) (N:Nat):Ext σ N σ N:=⟨Nat.le_refl _,fun _ _=>rfl,fun _ _=>rfl⟩
theorem Ext.trans {σ σ1 σ2:aZ} {N N1 N2:Nat} (h:Ext σ N σ1 N1) (k:Ext σ1 N1 σ2 N2):Ext σ N σ2 N2:=
 ⟨Nat.le_trans h.le k.le,fun d hd=>(k.at_ d (Nat.lt_of_lt_of_le hd h.le)).trans (h.at_ d hd),fun d hd=>(k.sz d (Nat.lt_of_lt_of_le hd h.le)).trans (h.sz d hd)⟩
theorem Ext.fn {σ σ':aZ} {N N':Nat} (h:Ext σ N σ' N') {g:Fn} (hg:IV N g):IV N' g/\σ'.fn g=σ.fn g:=by
 cases g<;>simp [IV,aZ.fn] at*
 exact⟨Nat.lt_of_lt_of_le hg h.le,h.at_ _ hg⟩
mutual
theorem af.ext {σ σ':aZ} {N N':Nat} (h:Ext σ N σ' N'):∀(a:AV) (v:Value),af σ N a v->af σ' N' a v
 | .b none,v,r=>by simpa [af] using r
 | .b (some x),v,r=>by simpa [af] using r
 | .i k none,v,r=>by simpa [af] using r
 | .i k (some n),v,r=>by simpa [af] using r
 | .f .top,v,r=>by simpa [af] using r
 | .f .zr,v,r=>by simpa [af] using r
 | .f (.k x),v,r=>by simpa [af] using r
 | .p none,v,r=>by simpa [af] using r
 | .p (some (d,o)),v,r=>by
  simp only [af] at r ⊢
  exact⟨Nat.lt_of_lt_of_le r.1 h.le,by rw [h.at_ d r.1];exact r.2⟩
 | .s none n c e,v,r=>by simpa [af] using r
 | .s (some (d,o)) n c e,v,r=>by
  simp only [af] at r ⊢
  refine⟨Nat.lt_of_lt_of_le r.1 h.le,?_⟩
  rw [h.at_ d r.1,h.sz d r.1]
  exact r.2
 | .m none,v,r=>by simpa [af] using r
 | .m (some d),v,r=>by
  simp only [af] at r ⊢
  exact⟨Nat.lt_of_lt_of_le r.1 h.le,by rw [h.at_ d r.1];exact r.2⟩
 | .fn g fs cs,v,r=>by
  simp only [af] at r ⊢
  obtain⟨hg,vs,us,e,h1,h2⟩:=r
  obtain⟨g1,g2⟩:=h.fn hg
  exact⟨g1,vs,us,by rw [g2];exact e,ai.ext h fs _ h1,ai.ext h cs _ h2⟩
 | .bD,v,r=>by simpa [af] using r
 | .agg cs,v,r=>by
  simp only [af] at r ⊢
  obtain⟨vs,e,h1⟩:=r
  exact⟨vs,e,ai.ext h cs _ h1⟩
 | .aF cs,v,r=>by
  simp only [af] at r ⊢
  obtain⟨vs,e,h1⟩:=r
  exact⟨vs,e,ai.ext h cs _ h1⟩
 | .bg,v,r=>by simp only [af]
theorem ai.ext {σ σ':aZ} {N N':Nat} (h:Ext σ N σ' N'):∀(ae:List AV) (vs:List Value),ai σ N ae vs->ai σ' N' ae vs
 | [],vs,r=>by simpa [ai] using r
 | a::ae,vs,r=>by
  simp only [ai] at r ⊢
  obtain⟨v,q,e,h1,h2⟩:=r
  exact⟨v,q,e,af.ext h a v h1,ai.ext h ae q h2⟩
end
theorem ai.length {σ:aZ} {N:Nat}:∀{ae:List AV} {vs:List Value},ai σ N ae vs->ae.length=vs.length
 | [],vs,r=>by simp only [ai] at r;subst r;rfl
 | a::ae,vs,r=>by
  simp only [ai] at r
  obtain⟨v,q,rfl,_,h2⟩:=r
  simp [ai.length h2]
theorem ai.get {σ:aZ} {N:Nat}:∀{ae:List AV} {vs:List Value},ai σ N ae vs->∀{i:Nat} {a:AV},ae[i]?=some a->∃v,vs[i]?=some v/\af σ N a v
 | [],vs,_,i,a,h=>by simp at h
 | a::ae,vs,r,i,b,h=>by
  simp only [ai] at r
  obtain⟨v,q,rfl,h1,h2⟩:=r
  cases i with
  | zero=>simp at h;subst h;exact⟨v,rfl,h1⟩
  | succ i=>exact ai.get h2 (by simpa using h)
theorem ai.getD {σ:aZ} {N:Nat} {ae:List AV} {vs:List Value} (r:ai σ N ae vs) (i:Nat) (u:Value):af σ N (ae.getD i .bg) (vs.getD i u):=by
 rw [List.getD_eq_getElem?_getD,List.getD_eq_getElem?_getD]
 cases h:ae[i]? with
 | none=>simp [af]
 | some a=>
  obtain⟨v,hv,hr⟩:=r.get h
  simpa [hv] using hr
theorem ai.set {σ:aZ} {N:Nat}:∀{ae:List AV} {vs:List Value},ai σ N ae vs->∀(i:Nat) {a:AV} {v:Value},af σ N a v->ai σ N (ae.set i a) (vs.set i v)
 | [],vs,r,i,a,v,_=>by simp only [ai] at r;subst r;simp [ai]
 | b::ae,vs,r,i,a,v,h=>by
  simp only [ai] at r
  obtain⟨u,q,rfl,h1,h2⟩:=r
  cases i with
  | zero=>exact⟨v,q,rfl,h,h2⟩
  | succ i=>exact⟨u,q.set i v,rfl,h1,ai.set h2 i h⟩
theorem ai.append {σ:aZ} {N:Nat}:∀{ae bs:List AV} {vs us:List Value},ai σ N ae vs->ai σ N bs us->ai σ N (ae++bs) (vs++us)
 | [],bs,vs,us,r,k=>by simp only [ai] at r;subst r;exact k
 | a::ae,bs,vs,us,r,k=>by
  simp only [ai] at r
  obtain⟨v,q,rfl,h1,h2⟩:=r
  exact⟨v,q++us,rfl,h1,ai.append h2 k⟩
theorem ai.take {σ:aZ} {N:Nat}:∀{ae:List AV} {vs:List Value},ai σ N ae vs->∀i,ai σ N (ae.take i) (vs.take i)
 | [],vs,r,i=>by simp only [ai] at r;subst r;simp [ai]
 | a::ae,vs,r,i=>by
  simp only [ai] at r
  obtain⟨v,q,rfl,h1,h2⟩:=r
  cases i with
  | zero=>simp [ai]
  | succ i=>exact⟨v,q.take i,rfl,h1,ai.take h2 i⟩
theorem ai.drop {σ:aZ} {N:Nat}:∀{ae:List AV} {vs:List Value},ai σ N ae vs->∀i,ai σ N (ae.drop i) (vs.drop i)
 | [],vs,r,i=>by simp only [ai] at r;subst r;simp [ai]
 | a::ae,vs,r,i=>by
  cases i with
  | zero=>exact r
  | succ i=>
   simp only [ai] at r
   obtain⟨v,q,rfl,h1,h2⟩:=r
   exact ai.drop h2 i
theorem ai.bg {σ:aZ} {N:Nat}:∀(vs:List Value),ai σ N (List.replicate vs.length .bg) vs
 | []=>by simp [ai]
 | v::vs=>⟨v,vs,rfl,by simp [af],ai.bg vs⟩
theorem ai.one {σ:aZ} {N:Nat} {a:AV} {v:Value} (h:af σ N a v):ai σ N [a] [v]:=⟨v,[],rfl,h,by simp [ai]⟩
theorem ai.of {σ:aZ} {N:Nat}:∀{ae:List AV} {vs:List Value},ae.length=vs.length->(∀(i:Nat) (a:AV) (v:Value),ae[i]?=some a->vs[i]?=some v->af σ N a v)->ai σ N ae vs
 | [],vs,hl,_=>by simp only [ai];exact List.length_eq_zero_iff.1 hl.symm
 | a::ae,[],hl,_=>by simp at hl
 | a::ae,v::vs,hl,h=>⟨v,vs,rfl,h 0 a v rfl rfl,ai.of (by simpa using hl) fun i x y hx hy=>h (i+1) x y (by simpa using hx) (by simpa using hy)⟩
inductive AC where
 | l (cs:List AV)
 | u (v:AV) (n:Nat)
def AC.size:AC->Nat
 | .l cs=>cs.length
 | .u _ n=>n
def AC.get?:AC->Nat->Option AV
 | .l cs,i=>cs[i]?
 | .u v n,i=>if i < n then some v else none
structure Fx where
 state:LoopState
 pending:Option Code
 tmps:List AV
 params:Array Tmp
 assign:Code
 body:Code
 defers:Nat
inductive ax where
 | cells (c:AC) (ro:Bool)
 | map (es:List (AV×AV))
 | tab (es:List (AV×AV))
 | loop (r:Fx)
 | ng
def ax.ro:ax->Bool
 | .cells _ ro=>ro
 | _=>false
inductive Tr where
 | nil
 | node (v:Option ax) (l r:Tr)
def Tr.get:Tr->Nat->Option ax
 | .nil,_=>none
 | .node v l r,n=>if n=0 then v else if n % 2=1 then l.get (n / 2) else r.get (n / 2 - 1)
def Tr.val:Tr->Option ax
 | .nil=>none
 | .node v _ _=>v
def Tr.left:Tr->Tr
 | .nil=> .nil
 | .node _ l _=>l
def Tr.right:Tr->Tr
 | .nil=> .nil
 | .node _ _ r=>r
def Tr.put (x:Option ax):Nat->Nat->Tr->Tr
 | 0,_,t=>t
 | f+1,n,t=>if n=0 then .node x t.left t.right else if n % 2=1 then .node t.val (Tr.put x f (n / 2) t.left) t.right else .node t.val t.left (Tr.put x f (n / 2 - 1) t.right)
theorem Tr.TS (t:Tr) (n:Nat):t.get n=if n=0 then t.val else if n % 2=1 then t.left.get (n / 2) else t.right.get (n / 2 - 1):=by
 cases t with
 | nil=>simp [Tr.get,Tr.val,Tr.left,Tr.right]
 | node v l r=>rfl
theorem Tr.get_put (x:Option ax):∀(f n m:Nat) (t:Tr),n < f->(Tr.put x f n t).get m=if m=n then x else t.get m
 | 0,n,m,t,h=>by omega
 | f+1,n,m,t,h=>by
  rw [Tr.TS t m]
  unfold Tr.put
  by_cases hn:n=0
  ·subst hn
   simp only [if_true,Tr.get]
   split<;>rfl
  ·rw [if_neg hn]
   by_cases ho:n % 2=1
   ·rw [if_pos ho]
    simp only [Tr.get]
    by_cases hm:m=0
    ·rw [if_pos hm,if_pos hm,if_neg (by omega)]
    ·rw [if_neg hm,if_neg hm]
     by_cases hmo:m % 2=1
     ·rw [if_pos hmo,if_pos hmo,Tr.get_put x f (n / 2) (m / 2) _ (by omega)]
      by_cases e:m=n
      ·subst e;rw [if_pos rfl,if_pos rfl]
      ·rw [if_neg e,if_neg (by omega)]
     ·rw [if_neg hmo,if_neg hmo,if_neg (by omega)]
   ·rw [if_neg ho]
    simp only [Tr.get]
    by_cases hm:m=0
    ·rw [if_pos hm,if_pos hm,if_neg (by omega)]
    ·rw [if_neg hm,if_neg hm]
     by_cases hmo:m % 2=1
     ·rw [if_pos hmo,if_pos hmo,if_neg (by omega)]
     ·rw [if_neg hmo,if_neg hmo,Tr.get_put x f (n / 2 - 1) (m / 2 - 1) _ (by omega)]
      by_cases e:m=n
      ·subst e;rw [if_pos rfl,if_pos rfl]
      ·rw [if_neg e,if_neg (by omega)]
structure aj where
 t:Tr
 next:Nat
 lo:Nat
def aj.get (h:aj) (d:Nat):Option ax:=if d < h.next then h.t.get d else none
def aj.set (h:aj) (d:Nat) (o:ax):aj:={h with t:=Tr.put (some o) (d+1) d h.t,lo:=min h.lo d}
def aj.lay (h:aj) (d:Nat) (o:Option ax):aj:={h with t:=Tr.put o (d+1) d h.t}
def aj.del (h:aj) (d:Nat):aj:={h with t:=Tr.put none (d+1) d h.t,lo:=min h.lo d}
def aj.push (h:aj) (o:ax):aj:={t:=Tr.put (some o) (h.next+1) h.next h.t,next:=h.next+1,lo:=h.lo}
theorem aj.kI {h:aj} {d:Nat} {o:ax} (e:h.get d=some o):d < h.next:=by
 unfold aj.get at e
 split at e
 ·assumption
 ·cases e
theorem aj.aK (h:aj) (d:Nat) (o:ax) (i:Nat) (hd:d < h.next):(h.set d o).get i=if i=d then some o else h.get i:=by
 unfold aj.get aj.set
 simp only []
 rw [Tr.get_put _ _ _ _ _ (by omega)]
 by_cases e:i=d
 ·subst e;simp [hd]
 ·simp [e]
theorem aj.get_lay (h:aj) (d:Nat) (o:Option ax) (i:Nat) (hd:d < h.next):(h.lay d o).get i=if i=d then o else h.get i:=by
 unfold aj.get aj.lay
 simp only []
 rw [Tr.get_put _ _ _ _ _ (by omega)]
 by_cases e:i=d
 ·subst e;simp [hd]
 ·simp [e]
theorem aj.Q8 (h:aj) (d i:Nat):(h.del d).get i=if i=d then none else h.get i:=by
 unfold aj.get aj.del
 simp only []
 rw [Tr.get_put _ _ _ _ _ (by omega)]
 by_cases e:i=d
 ·subst e;simp
 ·simp [e]
theorem aj.oG (h:aj) (o:ax) (i:Nat):(h.push o).get i=if i=h.next then some o else h.get i:=by
 unfold aj.get aj.push
 simp only []
 rw [Tr.get_put _ _ _ _ _ (by omega)]
 by_cases e:i=h.next
 ·subst e;simp
 ·simp only [e,if_false]
  by_cases hl:i < h.next
  ·rw [if_pos hl,if_pos (by omega)]
  ·rw [if_neg hl,if_neg (by omega)]
theorem aj.Wy {h:aj} {o:ax} {d:Nat} {x:ax} (e:h.get d=some x):(h.push o).get d=some x:=by
 rw [aj.oG,if_neg (by have:=aj.kI e;omega)];exact e
theorem aj.KR (h:aj) (o:ax):(h.push o).get h.next=some o:=by rw [aj.oG,if_pos rfl]
@[simp] theorem aj.next_push (h:aj) (o:ax):(h.push o).next=h.next+1:=rfl
@[simp] theorem aj.MQ (h:aj) (d:Nat) (o:ax):(h.set d o).next=h.next:=rfl
@[simp] theorem aj.next_del (h:aj) (d:Nat):(h.del d).next=h.next:=rfl
def kg (σ:aZ) (N:Nat):List (AV×AV)->List MapEntry->Prop
 | [],es=>es=[]
 | (k,v)::r,es=>∃e q,es=e::q/\af σ N k e.key/\af σ N v e.val/\kg σ N r q
theorem kg.ext {σ σ':aZ} {N N':Nat} (h:Ext σ N σ' N'):∀{ae:List (AV×AV)} {es:List MapEntry},kg σ N ae es->kg σ' N' ae es
 | [],es,r=>r
 | (k,v)::ae,es,r=>by
  obtain⟨e,q,h0,h1,h2,h3⟩:=r
  exact⟨e,q,h0,h1.ext h,h2.ext h,kg.ext h h3⟩
def oo (σ:aZ) (N n:Nat):ax->Obj->Prop
 | .cells c ro,o=>∃C e fz,o= .cells C e fz/\C.size=n/\c.size<=n/\(ro=false->fz=(0,0))/\∀i a,c.get? i=some a->∃v,C[i]?=some v/\af σ N a v
 | .map es,o=>∃E clock,o= .map E clock/\kg σ N es E.toList
 | .tab es,o=>∃E clock es',o= .map E clock/\es.Perm es'/\kg σ N es' E.toList
 | .loop r,o=>r.defers < N/\∃fn tm,o= .loop {state:=r.state,pending:=r.pending,fn,tmps:=tm,params:=r.params,assign:=r.assign,body:=r.body,defers:=σ.at_ r.defers}/\ai σ N r.tmps tm.toList
 | .ng,o=>o= .deferred (some [])
theorem oo.ext {σ σ':aZ} {N N' n:Nat} (h:Ext σ N σ' N'):∀{a:ax} {o:Obj},oo σ N n a o->oo σ' N' n a o
 | .cells c ro,o,r=>by
  obtain⟨C,e,fz,h0,h1,h2,h3,h4⟩:=r
  refine⟨C,e,fz,h0,h1,h2,h3,fun i a ha=>?_⟩
  obtain⟨v,hv,hr⟩:=h4 i a ha
  exact⟨v,hv,hr.ext h⟩
 | .map es,o,r=>by
  obtain⟨E,c,h0,h1⟩:=r
  exact⟨E,c,h0,h1.ext h⟩
 | .tab es,o,r=>by
  obtain⟨E,c,es',h0,hp,h1⟩:=r
  exact⟨E,c,es',h0,hp,h1.ext h⟩
 | .loop r,o,q=>by
  obtain⟨hd,fn,tm,h0,h1⟩:=q
  refine⟨Nat.lt_of_lt_of_le hd h.le,fn,tm,?_,h1.ext h⟩
  rw [h.at_ _ hd];exact h0
 | .ng,o,r=>r
abbrev Mem:=Nat->Option ax
structure eF (σ:aZ) (g:Mem) (N:Nat) (w:World):Prop where
 ob:∀d o,g d=some o->d < N/\∃O,w.heap[σ.at_ d]?=some O/\oo σ N (σ.sz d) o O
 inj:∀d e o o',g d=some o->g e=some o'->o.ro=false->σ.at_ d=σ.at_ e->d=e
structure Base (w0:World) (σ:aZ) (g:Mem) (w:World):Prop where
 os:w.os=w0.os
 tape:w.tape=w0.tape
 output:w.output=w0.output
 size:w0.heap.size<=w.heap.size
 block:∀r,r < w0.heap.size->w.heap[r]?=w0.heap[r]?
 wr:∀d o,g d=some o->o.ro=false->w0.heap.size<=σ.at_ d
theorem Base.below {w0:World} {σ:aZ} {g:Mem} {w:World} (h:Base w0 σ g w):Below w0.heap.size w0 w:=⟨h.os,h.tape,h.output,h.size,h.block⟩
structure MR (σ:aZ) (g:Mem) (w:World) (σ':aZ) (g':Mem) (w':World):Prop where
 size:w.heap.size<=w'.heap.size
 block:∀r,r < w.heap.size->(∀d o,g d=some o->o.ro=false->σ.at_ d≠r)->w'.heap[r]?=w.heap[r]?/\(∀d o,g' d=some o->o.ro=false->σ'.at_ d≠r)
 told:∀r,r < w.heap.size->(∀d o,g d=some o->σ.at_ d≠r)->∀d o,g' d=some o->σ'.at_ d≠r
theorem MR.refl (σ:aZ) (g:Mem) (w:World):MR σ g w σ g w:=⟨Nat.le_refl _,fun _ _ h=>⟨rfl,h⟩,fun _ _ h=>h⟩
theorem MR.trans {σ σ1 σ2:aZ} {g g1 g2:Mem} {w w1 w2:World} (h:MR σ g w σ1 g1 w1) (k:MR σ1 g1 w1 σ2 g2 w2):MR σ g w σ2 g2 w2:=
 ⟨Nat.le_trans h.size k.size,fun r hr hw=>by
  obtain⟨a,b⟩:=h.block r hr hw
  obtain⟨c,d⟩:=k.block r (Nat.lt_of_lt_of_le hr h.size) b
  exact⟨c.trans a,d⟩,fun r hr hw=>k.told r (Nat.lt_of_lt_of_le hr h.size) (h.told r hr hw)⟩
structure Post (w0:World) (σ:aZ) (g:Mem) (N:Nat) (w:World) (σ':aZ) (g':Mem) (N':Nat) (w':World):Prop where
 ext:Ext σ N σ' N'
 keep:MR σ g w σ' g' w'
 rel:eF σ' g' N' w'
 base:Base w0 σ' g' w'
theorem Post.refl {w0:World} {σ:aZ} {g:Mem} {N:Nat} {w:World} (r:eF σ g N w) (b:Base w0 σ g w):Post w0 σ g N w σ g N w:=⟨.refl _ _, .refl _ _ _,r,b⟩
theorem Post.trans {w0:World} {σ σ1 σ2:aZ} {g g1 g2:Mem} {N N1 N2:Nat} {w w1 w2:World} (p:Post w0 σ g N w σ1 g1 N1 w1) (q:Post w0 σ1 g1 N1 w1 σ2 g2 N2 w2):Post w0 σ g N w σ2 g2 N2 w2:=
 ⟨p.ext.trans q.ext,p.keep.trans q.keep,q.rel,q.base⟩
theorem Post.drew {w0:World} {σ:aZ} {g:Mem} {N:Nat} {w:World} (r:eF σ g N w) (b:Base w0 σ g w):Post w0 σ g N w σ g N w.drew:=
 ⟨.refl _ _,⟨Nat.le_refl _,fun _ _ h=>⟨rfl,h⟩,fun _ _ h=>h⟩,⟨r.ob,r.inj⟩,⟨b.os,b.tape,b.output,b.size,b.block,b.wr⟩⟩
def aZ.ins (σ:aZ) (d r n:Nat):aZ:={at_:=fun e=>if e=d then r else σ.at_ e,sz:=fun e=>if e=d then n else σ.sz e}
theorem Ext.ins (σ:aZ) (N r n:Nat):Ext σ N (σ.ins N r n) (N+1):=
 ⟨Nat.le_succ _,fun d hd=>by simp [aZ.ins,Nat.ne_of_lt hd],fun d hd=>by simp [aZ.ins,Nat.ne_of_lt hd]⟩
def Mem.push (g:Mem) (N:Nat) (o:ax):Mem:=fun d=>if d=N then some o else g d
def Mem.set (g:Mem) (d:Nat) (o:ax):Mem:=fun e=>if e=d then some o else g e
def Mem.del (g:Mem) (d:Nat):Mem:=fun e=>if e=d then none else g e
theorem eF.wI {σ:aZ} {g:Mem} {N:Nat} {w:World} (r:eF σ g N w) {d:Nat} {o:ax} (h:g d=some o):σ.at_ d < w.heap.size:=by
 obtain⟨_,O,hO,_⟩:=r.ob d o h
 exact(Array.getElem?_eq_some_iff.1 hO).1
theorem Post.push {w0:World} {σ:aZ} {g:Mem} {N:Nat} {w:World} (r:eF σ g N w) (b:Base w0 σ g w) (hN:g N=none) (o:ax) (O:Obj) (n:Nat) (ho:oo (σ.ins N w.heap.size n) (N+1) n o O):
  Post w0 σ g N w (σ.ins N w.heap.size n) (Mem.push g N o) (N+1) (w.alloc O):=by
 have hx:=Ext.ins σ N w.heap.size n
 have hold:∀k,k < w.heap.size->(w.alloc O).heap[k]?=w.heap[k]?:=fun k hk=>Below.heap_alloc _ _ _ hk
 have hnew:(w.alloc O).heap[w.heap.size]?=some O:=by show(w.heap.push O)[w.heap.size]?=some O;simp
 have hne:∀d o',g d=some o'->d≠N:=fun d o' h e=>by subst e;rw [hN] at h;cases h
 refine⟨hx,⟨by simp,fun k hk hw=>⟨hold k hk,?_⟩,fun k hk hw d o' h=>?_⟩,⟨fun d o' h=>?_,fun d e o1 o2 h1 h2 hro he=>?_⟩,⟨b.os,b.tape,b.output,by have:=b.size;simp;omega,fun k hk=>?_,fun d o' h hr=>?_⟩⟩
 ·intro d o' h hr
  unfold Mem.push at h
  by_cases e:d=N
  ·subst e;simp [aZ.ins];omega
  ·rw [if_neg e] at h
   have:=hw d o' h hr
   simpa [aZ.ins,e] using this
 ·unfold Mem.push at h
  by_cases e:d=N
  ·subst e;simp [aZ.ins];omega
  ·rw [if_neg e] at h
   have:=hw d o' h
   simpa [aZ.ins,e] using this
 ·unfold Mem.push at h
  by_cases e:d=N
  ·subst e
   rw [if_pos rfl] at h
   cases h
   refine⟨Nat.lt_succ_self _,O,?_,?_⟩
   ·simp only [aZ.ins,if_true];exact hnew
   ·simpa [aZ.ins] using ho
  ·rw [if_neg e] at h
   obtain⟨hd,O',Pk,hr'⟩:=r.ob d o' h
   refine⟨Nat.lt_succ_of_lt hd,O',?_,?_⟩
   ·have hl:=(Array.getElem?_eq_some_iff.1 Pk).1
    simp only [aZ.ins,e,if_false]
    rw [hold _ hl];exact Pk
   ·have:=hr'.ext hx
    simpa [aZ.ins,e] using this
 ·unfold Mem.push at h1 h2
  by_cases e1:d=N<;>by_cases e2:e=N
  ·rw [e1,e2]
  ·rw [if_neg e2] at h2
   have:=r.wI h2
   simp [aZ.ins,e1,e2] at he;omega
  ·rw [if_neg e1] at h1
   have:=r.wI h1
   simp [aZ.ins,e1,e2] at he;omega
  ·rw [if_neg e1] at h1
   rw [if_neg e2] at h2
   simp [aZ.ins,e1,e2] at he
   exact r.inj d e o1 o2 h1 h2 hro he
 ·rw [hold _ (Nat.lt_of_lt_of_le hk b.size)];exact b.block k hk
 ·unfold Mem.push at h
  by_cases e:d=N
  ·subst e;simp [aZ.ins];exact b.size
  ·rw [if_neg e] at h
   have:=b.wr d o' h hr
   simpa [aZ.ins,e] using this
theorem Post.set {w0:World} {σ:aZ} {g:Mem} {N:Nat} {w w':World} (r:eF σ g N w) (b:Base w0 σ g w) (d:Nat) (o o':ax) (O':Obj) (hd:g d=some o) (hro:o.ro=false) (ho:oo σ N (σ.sz d) o' O')
  (hs:w'.heap.size=w.heap.size) (he:∀k,k≠σ.at_ d->w'.heap[k]?=w.heap[k]?) (hO:w'.heap[σ.at_ d]?=some O') (h1:w'.os=w.os) (h2:w'.tape=w.tape) (h3:w'.output=w.output):
  Post w0 σ g N w σ (Mem.set g d o') N w':=by
 have hat:=r.wI hd
 have hwr:=b.wr d o hd hro
 have hdN:=(r.ob d o hd).1
 refine⟨.refl _ _,⟨by omega,fun k hk hw=>⟨he k (fun e=>hw d o hd hro e.symm),?_⟩,fun k hk hw e q h=>?_⟩,⟨fun e q h=>?_,fun e f q1 q2 h1 h2 hq1 hef=>?_⟩,⟨h1.trans b.os,h2.trans b.tape,h3.trans b.output,by rw [hs];exact b.size,fun k hk=>?_,fun e q h hr=>?_⟩⟩
 ·intro e q h hr
  unfold Mem.set at h
  by_cases MM:e=d
  ·subst MM;exact hw e o hd hro
  ·rw [if_neg MM] at h;exact hw e q h hr
 ·unfold Mem.set at h
  by_cases MM:e=d
  ·subst MM;exact hw e o hd
  ·rw [if_neg MM] at h;exact hw e q h
 ·unfold Mem.set at h
  by_cases MM:e=d
  ·subst MM
   rw [if_pos rfl] at h
   cases h
   exact⟨hdN,O',hO,ho⟩
  ·rw [if_neg MM] at h
   obtain⟨heN,Q,hQ,hr⟩:=r.ob e q h
   refine⟨heN,Q,?_,hr⟩
   rw [he _ (fun x=>MM (r.inj d e o q hd h hro x.symm).symm)]
   exact hQ
 ·unfold Mem.set at h1 h2
  have a1:∃z,g e=some z/\z.ro=false:=by
   by_cases x:e=d
   ·exact⟨o,by rw [x];exact hd,hro⟩
   ·rw [if_neg x] at h1;exact⟨_,h1,hq1⟩
  have a2:∃z,g f=some z:=by
   by_cases x:f=d
   ·exact⟨o,by rw [x];exact hd⟩
   ·rw [if_neg x] at h2;exact⟨_,h2⟩
  obtain⟨z1,a1,a1r⟩:=a1
  obtain⟨z2,a2⟩:=a2
  exact r.inj e f z1 z2 a1 a2 a1r hef
 ·rw [he k (by omega)];exact b.block k hk
 ·unfold Mem.set at h
  by_cases MM:e=d
  ·subst MM;exact hwr
  ·rw [if_neg MM] at h;exact b.wr e q h hr
theorem Post.Zq {w0:World} {σ:aZ} {g:Mem} {N:Nat} {w w':World} (r:eF σ g N w) (b:Base w0 σ g w) (hN:g N=none) (d:Nat) (o o':ax) (O':Obj) (hd:g d=some o) (hro:o.ro=false) (ho:oo (σ.ins N (σ.at_ d) (σ.sz d)) (N+1) (σ.sz d) o' O')
  (hs:w'.heap.size=w.heap.size) (he:∀k,k≠σ.at_ d->w'.heap[k]?=w.heap[k]?) (hO:w'.heap[σ.at_ d]?=some O') (h1:w'.os=w.os) (h2:w'.tape=w.tape) (h3:w'.output=w.output):
  Post w0 σ g N w (σ.ins N (σ.at_ d) (σ.sz d)) (Mem.push (Mem.del g d) N o') (N+1) w':=by
 have hat:=r.wI hd
 have hwr:=b.wr d o hd hro
 have hdN:=(r.ob d o hd).1
 have hx:=Ext.ins σ N (σ.at_ d) (σ.sz d)
 have key:∀e q,Mem.push (Mem.del g d) N o' e=some q->(e=N/\q=o')\/(e≠N/\e≠d/\g e=some q):=by
  intro e q h
  unfold Mem.push Mem.del at h
  by_cases x:e=N
  ·rw [if_pos x] at h;cases h;exact .inl ⟨x,rfl⟩
  ·rw [if_neg x] at h
   by_cases y:e=d
   ·rw [if_pos y] at h;cases h
   ·rw [if_neg y] at h;exact .inr ⟨x,y,h⟩
 refine⟨hx,⟨by omega,fun k hk hw=>⟨he k (fun e=>hw d o hd hro e.symm),?_⟩,fun k hk hw e q h=>?_⟩,⟨fun e q h=>?_,fun e f q1 q2 a1 a2 hq1 hef=>?_⟩,⟨h1.trans b.os,h2.trans b.tape,h3.trans b.output,by rw [hs];exact b.size,fun k hk=>?_,fun e q h hr=>?_⟩⟩
 ·intro e q h hr
  rcases key e q h with⟨rfl,rfl⟩ | ⟨x,y,z⟩
  ·simp only [aZ.ins,if_true];exact hw d o hd hro
  ·simp only [aZ.ins,x,if_false];exact hw e q z hr
 ·rcases key e q h with⟨rfl,rfl⟩ | ⟨x,y,z⟩
  ·simp only [aZ.ins,if_true];exact hw d o hd
  ·simp only [aZ.ins,x,if_false];exact hw e q z
 ·rcases key e q h with⟨rfl,rfl⟩ | ⟨x,y,z⟩
  ·refine⟨Nat.lt_succ_self _,O',?_,?_⟩
   ·simp only [aZ.ins,if_true];exact hO
   ·simpa [aZ.ins] using ho
  ·obtain⟨heN,Q,hQ,hr⟩:=r.ob e q z
   refine⟨Nat.lt_succ_of_lt heN,Q,?_,?_⟩
   ·simp only [aZ.ins,x,if_false]
    rw [he _ (fun t=>y (r.inj d e o q hd z hro t.symm).symm)]
    exact hQ
   ·have:=hr.ext hx
    simpa [aZ.ins,x] using this
 ·rcases key e q1 a1 with⟨rfl,rfl⟩ | ⟨x,y,z⟩<;>rcases key f q2 a2 with⟨rfl,rfl⟩ | ⟨x',y',z'⟩
  ·rfl
  ·simp [aZ.ins,x'] at hef
   exact absurd (r.inj d f o q2 hd z' hro hef).symm y'
  ·simp [aZ.ins,x] at hef
   exact absurd (r.inj e d q1 o z hd hq1 hef) y
  ·simp [aZ.ins,x,x'] at hef
   exact r.inj e f q1 q2 z z' hq1 hef
 ·rw [he k (by omega)];exact b.block k hk
 ·rcases key e q h with⟨rfl,rfl⟩ | ⟨x,y,z⟩
  ·simp only [aZ.ins,if_true];exact hwr
  ·simp only [aZ.ins,x,if_false];exact b.wr e q z hr
theorem Post.del {w0:World} {σ:aZ} {g:Mem} {N:Nat} {w:World} (r:eF σ g N w) (b:Base w0 σ g w) (d:Nat):Post w0 σ g N w σ (Mem.del g d) N w:=by
 have key:∀e q,Mem.del g d e=some q->g e=some q:=by
  intro e q h
  unfold Mem.del at h
  by_cases y:e=d
  ·rw [if_pos y] at h;cases h
  ·rw [if_neg y] at h;exact h
 exact⟨.refl _ _,⟨Nat.le_refl _,fun k hk hw=>⟨rfl,fun e q h hr=>hw e q (key e q h) hr⟩,fun k hk hw e q h=>hw e q (key e q h)⟩,⟨fun e q h=>r.ob e q (key e q h),fun e f q1 q2 a1 a2 hq x=>r.inj e f q1 q2 (key e q1 a1) (key f q2 a2) hq x⟩,
  ⟨b.os,b.tape,b.output,b.size,b.block,fun e q h hr=>b.wr e q (key e q h) hr⟩⟩
end Go.AM
namespace Go.AM
open Go Go.RowKit
abbrev AV.un:AV:= .aF []
abbrev aS:=List (Int×Int)
def aS.ok (c:aS):Prop:=∀p∈c,p.1<=p.2
inductive Ef where
 | none
 | push (o:ax)
 | set (d:Nat) (o:ax)
 | move (d:Nat) (o:ax)
def Ef.app (h:aj):Ef->aj
 | .none=>h
 | .push o=>h.push o
 | .set d o=>h.set d o
 | .move d o=>(h.del d).push o
abbrev Out:=Option (aS×AV×Ef)
inductive Md where
 | run
 | weak
 deriving DecidableEq
def AV.gL:Value->AV
 | .bool x=> .b (some x)
 | .int k n=> .i k (some n)
 | .float .f64 x=> .f (.k x)
 | .pointer none=> .p none
 | .slice none 0 0=> .s none 0 none 1
 | .map none=> .m none
 | .nilFunc=> .bD
 | .func (.func q) ⟨[]⟩ ⟨[]⟩=> .fn (.func q) [] []
 | _=> .bg
def AV.eX:Value->AV
 | .agg cs=> .agg (cs.toList.map AV.gL)
 | v=>AV.gL v
def AV.atom:AV->Bool
 | .agg _ | .aF _ | .bg=>false
 | _=>true
def AV.cells:AV->List AV
 | .agg cs=>cs
 | a=>[a]
noncomputable def slot (l:List AV):Nat->AV:=List.rec (fun _=> .bg) (fun a _ ih d=>Nat.rec a (fun d _=>ih d) d) l
theorem dR:∀(l:List AV) (d:Nat),slot l d=l.getD d .bg
 | [],d=>rfl
 | a::r,0=>rfl
 | a::r,d+1=>dR r d
noncomputable def ev (t:List AV):Operand->AV
 | .tmp i=>slot t i
 | .const v=> .eX v
 | .global _=> .bg
 | .func f=> .fn (.func f) [] []
def bu (P:Program) (t:TypeId):Option Nat:=(P.info? t).map (·.size)
def BH (P:Program) (t:TypeId):Option Bool:=
 match P.underlying t with
 | some (.struct _) | some (.array _ _)=>some true
 | some _=>some false
 | none=>none
def qW (P:Program) (t:TypeId):Option AV:=((P.info? t).bind (·.zero)).map AV.eX
def AC.read (c:AC) (o:Nat):Option (aS×AV):=
 match c with
 | .l cs=>(cs[o]?).map fun a=>([],a)
 | .u v n=>some ([((o:Int)+1,(n:Int))],v)
def AC.reads (c:AC) (o:Nat):Nat->Option (aS×List AV)
 | 0=>some ([],[])
 | n+1=>match c.read o,c.reads (o+1) n with
  | some (c1,a),some (c2,ae)=>some (c1++c2,a::ae)
  | _,_=>none
def AV.le:AV->AV->Option aS
 | .f (.k x), .f .top=>some [((x:Int),18446744073709551615)]
 | .f .zr, .f .top=>some []
 | .f .top, .f .top=>some []
 | .f .zr, .f .zr=>some []
 | .f (.k x), .f .zr=>if x=0 then some [] else none
 | .b _, .b none=>some []
 | .i k none, .i k' none=>if k=k' then some [] else none
 | .i k (some n), .i k' none=>if k=k' then some [(k.min,n),(n,k.max)] else none
 | _,_=>none
def wJ (v:AV):List AV->Option aS
 | []=>some []
 | a::ae=>match a.le v,wJ v ae with
  | some c,some d=>some (c++d)
  | _,_=>none
def AC.write (c:AC) (o:Nat) (a:AV):Option (aS×AC):=
 match c with
 | .l cs=>some ([((o:Int)+1,(cs.length:Int))], .l (cs.set o a))
 | .u v n=>(a.le v).map fun k=>(((o:Int)+1,(n:Int))::k, .u v n)
def AC.writes (c:AC) (o:Nat):List AV->Option (aS×AC)
 | []=>some ([],c)
 | a::ae=>match c.write o a with
  | some (k,c1)=>match AC.writes c1 (o+1) ae with
   | some (k2,c2)=>some (k++k2,c2)
   | none=>none
  | none=>none
def CV (P:Program) (t:TypeId) (x:AV) (g:Mem):Option (aS×AV):=
 match x with
 | .p (some (d,o))=>
  match g d with
  | some (.cells c _)=>
   match BH P t with
   | some false=>c.read o
   | some true=>match bu P t with
    | some n=>(c.reads o n).map fun r=>(r.1, .agg r.2)
    | none=>none
   | none=>none
  | _=>none
 | _=>none
def Pp (P:Program) (t:TypeId) (x a:AV) (g:Mem):Option (aS×Ef):=
 match x with
 | .p (some (d,o))=>
  match g d with
  | some (.cells c false)=>
   if a.cells.all AV.atom/\bu P t=some a.cells.length then
    (c.writes o a.cells).map fun r=>(r.1, .set d (.cells r.2 false))
   else none
  | _=>none
 | _=>none
def anew (cs:List AV) (nx:Nat):Out:=if cs.all AV.atom then some ([], .p (some (nx,0)), .push (.cells (.l cs) false)) else none
def wK (place:Nat->Option (Nat×Nat)) (cells:List AV):List (Nat×AV)->Option (List AV)
 | []=>some cells
 | (i,v)::rest=>
  match place i with
  | none=>none
  | some (off,size)=>
   if v.cells.all AV.atom/\v.cells.length=size/\off+size<=cells.length then wK place (cells.take off++v.cells++cells.drop (off+size)) rest else none
def TU (P:Program) (t:TypeId) (cs:List AV) (off:Nat):Option AV:=
 match BH P t with
 | some true=>match bu P t with
  | some n=>if off+n<=cs.length then some (.agg ((cs.drop off).take n)) else none
  | none=>none
 | some false=>cs[off]?
 | none=>none
def Wz (md:Md) (op:BinOp) (k:IntKind) (x y:Option Int):Option (aS×AV):=
 match x,y with
 | some a,some b=>
  match op with
  | .add=>match md with
   | .run=>some ([], .i k (some (k.wrap (a+b))))
   | .weak=>some ([(k.min,a+b),(a+b,k.max)], .i k (some (a+b)))
  | .sub=>match md with
   | .run=>some ([], .i k (some (k.wrap (a - b))))
   | .weak=>some ([(k.min,a - b),(a - b,k.max)], .i k (some (a - b)))
  | .mul=>match md with
   | .run=>some ([], .i k (some (k.wrap (a*b))))
   | .weak=>some ([(k.min,a*b),(a*b,k.max)], .i k (some (a*b)))
  | .quo=>if b=0 then none else some ([], .i k (some (k.wrap (a.tdiv b))))
  | .rem=>if b=0 then none else some ([], .i k (some (a.tmod b)))
  | .and=>some ([], .i k (some (k.wrap (BitVec.ofInt k.bits a&&& BitVec.ofInt k.bits b).toNat)))
  | .or=>some ([], .i k (some (k.wrap (BitVec.ofInt k.bits a||| BitVec.ofInt k.bits b).toNat)))
  | .xor=>some ([], .i k (some (k.wrap (BitVec.ofInt k.bits a ^^^ BitVec.ofInt k.bits b).toNat)))
  | .andNot=>some ([], .i k (some (k.wrap (BitVec.ofInt k.bits a&&& ~~~BitVec.ofInt k.bits b).toNat)))
  | .eql=>some ([], .b (some (a==b)))
  | .neq=>some ([], .b (some (a != b)))
  | .lss=>some ([], .b (some (decide (a < b))))
  | .leq=>some ([], .b (some (decide (a<=b))))
  | .gtr=>some ([], .b (some (decide (a > b))))
  | .geq=>some ([], .b (some (decide (a >= b))))
  | _=>none
 | _,_=>
  match op with
  | .add | .sub | .mul | .and | .or | .xor | .andNot=>some ([], .i k none)
  | .eql | .neq | .lss | .leq | .gtr | .geq=>some ([], .b none)
  | _=>none
def Pq (op:BinOp) (k:IntKind) (x:Option Int) (y:Option Int):Option AV:=
 match y with
 | none=>none
 | some b=>
  if b < 0 then none else
  match op,x with
  | .shl,some a=>some (.i k (some (k.wrap (a*2 ^ (min b.toNat k.bits)))))
  | .shr,some a=>some (.i k (some (a.fdiv (2 ^ (min b.toNat k.bits)))))
  | .shl,none=>some (.i k none)
  | .shr,none=>some (.i k none)
  | _,_=>none
def FD.words:FD->Option (List Nat)
 | .top=>none
 | .zr=>some [0,9223372036854775808]
 | .k w=>some [w]
def Zr (op:BinOp) (x y:Nat):Option (Option Nat):=
 match op with
 | .add=>some (Ieee.double.add x y)
 | .sub=>some (Ieee.double.sub x y)
 | .mul=>some (Ieee.double.mul x y)
 | .quo=>some (Ieee.double.div x y)
 | _=>none
def FD.wL:List (Option Nat)->FD
 | [some w]=> .k w
 | l=>if l.all (fun o=>o==some 0) then .k 0 else if l.all (fun o=>o==some 0||o==some 9223372036854775808) then .zr else .top
def BI (op:BinOp) (x y:FD):Option AV:=
 match op with
 | .add | .sub | .mul | .quo=>
  match x.words,y.words with
  | some xs,some ys=>some (.f (FD.wL (xs.flatMap fun a=>ys.map fun b=>(Zr op a b).getD none)))
  | _,_=>some (.f .top)
 | _=>none
def Sk (op:BinOp) (x y:Nat):Bool:=
 let c:=Ieee.double.order x y
 match op with
 | .eql=>c==some .eq
 | .neq=>c != some .eq
 | .lss=>c==some .lt
 | .leq=>c==some .lt||c==some .eq
 | .gtr=>c==some .gt
 | .geq=>c==some .gt||c==some .eq
 | _=>false
def EZ:List Bool->Option Bool
 | []=>none
 | b::l=>if l.all (·==b) then some b else none
def JC (op:BinOp) (x y:FD):Option AV:=
 match op with
 | .eql | .neq | .lss | .leq | .gtr | .geq=>
  match x.words,y.words with
  | some xs,some ys=>some (.b (EZ (xs.flatMap fun a=>ys.map fun b=>Sk op a b)))
  | _,_=>some (.b none)
 | _=>none
def JD (P:Program) (xs ys:List AV):List Field->Option Bool
 | []=>some true
 | f::r=>
  if f.name= "_" then none else
  match P.underlying f.type,xs[f.offset]?,ys[f.offset]?,JD P xs ys r with
  | some (.int _),some (.i k (some a)),some (.i k' (some b)),some z=>if k=k' then some (a==b&&z) else none
  | _,_,_,_=>none
def Wj (P:Program) (t:TypeId) (x y:AV):Option (Option Bool):=
 match P.underlying t,x,y with
 | some .bool, .b (some a), .b (some b)=>some (some (a==b))
 | some .bool, .b _, .b _=>some none
 | some (.struct fs), .agg xs, .agg ys=>if P.stoodInHeld t then none else (JD P xs ys fs.toList).map some
 | some (.pointer e), .p a, .p b=>
  match a,b with
  | none,none=>some (some true)
  | none,some _ | some _,none=>some (some false)
  | some (d,o),some (d',o')=>match bu P e with
   | some (_+1)=>if d=d' then some (some (o==o')) else none
   | _=>none
 | some (.slice _), .s none _ _ _, .s none _ _ _=>some (some true)
 | some (.slice _), .s (some _) _ _ _, .s none _ _ _=>some (some false)
 | some (.slice _), .s none _ _ _, .s (some _) _ _ _=>some (some false)
 | _,_,_=>none
def sD (P:Program) (t:TypeId) (x y:AV) (g:Mem):Bool:=
 match P.underlying t,x,y with
 | some (.pointer e), .p (some (d,_)), .p (some (d',_))=>
  (match bu P e with | some (_+1)=>true | _=>false)&&d != d'&&(match g d,g d' with | some (.cells _ false),some (.cells _ false)=>true | _,_=>false)
 | _,_,_=>false
def Zt:Option Bool->Option Bool
 | some b=>some (!b)
 | none=>none
def sF (P:Program) (t:TypeId):AV->Bool
 | .agg _=>P.eqGuardType P.depth t
 | _=>false
def Ps (P:Program) (md:Md) (op:BinOp) (t:TypeId) (x y:AV) (g:Mem):Option (aS×AV):=
 match op,x,y with
 | .shl, .i k a, .i _ b | .shr, .i k a, .i _ b=>(Pq op k a b).map fun v=>([],v)
 | _, .i k a, .i k' b=>if k=k' then Wz md op k a b else none
 | .eql, .f a, .f b | .neq, .f a, .f b | .lss, .f a, .f b | .leq, .f a, .f b | .gtr, .f a, .f b | .geq, .f a, .f b=>(JC op a b).map fun v=>([],v)
 | _, .f a, .f b=>(BI op a b).map fun v=>([],v)
 | .eql,x,y=>
  if sF P t x then none else
  if sD P t x y g then some ([], .b (some false)) else (Wj P t x y).map fun b=>([], .b b)
 | .neq,x,y=>
  if sF P t x then none else
  if sD P t x y g then some ([], .b (some true)) else (Wj P t x y).map fun b=>([], .b (Zt b))
 | _,_,_=>none
def negF:FD->FD
 | .top=> .top
 | .zr=> .zr
 | .k w=> .k (w ^^^ 9223372036854775808)
def aun (md:Md) (op:UnOp) (x:AV):Option (aS×AV):=
 match op,x with
 | .neg, .i k a=>Wz md .sub k (some 0) a
 | .neg, .f a=>some ([], .f (negF a))
 | .not, .b a=>some ([], .b (Zt a))
 | _,_=>none
def TY (P:Program) (md:Md) (src dst:TypeId) (x:AV):Option (aS×AV):=
 match P.underlying src,P.underlying dst,x with
 | some _,some (.int k), .i _ (some n)=>
  match md with
  | .run=>some ([], .i k (some (k.wrap n)))
  | .weak=>some ([(k.min,n),(n,k.max)], .i k (some n))
 | some _,some (.int k), .i _ none=>some ([], .i k none)
 | some _,some (.float .f64), .i _ (some n)=>some ([], .f (.k (FloatKind.f64.nearest n)))
 | some _,some (.float .f64), .i _ none=>some ([], .f .top)
 | some _,some (.float .f64), .f a=>some ([], .f a)
 | _,_,_=>none
def bnd (x:Option AV) (d:Int):Option Int:=
 match x with
 | none=>some d
 | some (.i _ (some n))=>some n
 | _=>none
def Pt (P:Program) (t:TypeId) (x:AV) (lo hi:Option AV):Option (aS×AV):=
 match P.underlying t,x with
 | some (.slice e), .s a n _ es=>
  match bu P e,bnd lo 0,bnd hi n with
  | some z,some l,some u=>
   match a with
   | none=>some ([(0,l),(l,u),(u,0)], .s none 0 none z)
   | some (d,o)=>if z=es then some ([(0,l),(l,u),(u,(n:Int))], .s (some (d,o+l.toNat*z)) (u - l).toNat none z) else none
  | _,_,_=>none
 | _,_=>none
def Q9 (md:Md) (zero:List AV) (n:Nat):Option AC:=
 match md with
 | .run=>some (.l ((List.replicate n zero).flatten))
 | .weak=>match zero with
  | [.f (.k 0)]=>some (.u (.f .top) n)
  | [.b _]=>some (.u (.b none) n)
  | [.i k (some 0)]=>some (.u (.i k none) n)
  | z=>some (.l ((List.replicate n z).flatten))
def TZ (P:Program) (md:Md) (t:TypeId) (l c:AV) (nx:Nat):Out:=
 match P.underlying t,l,c with
 | some (.slice e), .i k (some n), .i k' (some m)=>
  match P.info? e with
  | some i=>match i.zero with
   | some z=>
    if (AV.eX z).cells.all AV.atom/\(AV.eX z).cells.length=i.size/\i.size≠0 then
     match Q9 md (AV.eX z).cells n.toNat with
     | some cs=>some ([(0,n),(n,m),(m,n),((i.bytes:Int)*n,281474976710656),(n,1152921504606846976)], .s (some (nx,0)) n.toNat (some n.toNat) i.size, .push (.cells cs false))
     | none=>none
    else none
   | none=>none
  | none=>none
 | _,_,_=>none
def oH (es:Nat) (x:AV) (g:Mem):Option (aS×AC):=
 match x with
 | .s _ 0 _ _=>some ([], .l [])
 | .s (some (d,o)) n _ e=>
  if e=es then
   match g d with
   | some (.cells (.l cs) _)=>some ([((o+n*e:Nat),(cs.length:Int))], .l ((cs.drop o).take (n*e)))
   | some (.cells (.u v m) _)=>some ([((o+n*e:Nat),(m:Int))], .u v (n*e))
   | _=>none
  else none
 | _=>none
def AC.E5:AC->Bool
 | .l cs=>cs.all AV.atom
 | .u v _=>v.atom
def AC.cat:AC->AC->Option (aS×AC)
 | .l xs, .l ys=>some ([], .l (xs++ys))
 | .u v n, .l ys=>(wJ v ys).map fun c=>(c, .u v (n+ys.length))
 | .l [], .u v n=>some ([], .u v n)
 | .l xs, .u v n=>(wJ v xs).map fun c=>(c, .u v (xs.length+n))
 | .u v n, .u _ 0=>some ([], .u v n)
 | .u (.f .top) n, .u (.f .top) m=>some ([], .u (.f .top) (n+m))
 | _,_=>none
def KS (P:Program) (t:TypeId) (s x:AV) (g:Mem) (nx:Nat):Out:=
 match P.underlying t with
 | some (.slice e)=>match P.info? e with
  | some i=>match i.zero with
   | none=>none
   | some z=>
   if i.size=0\/i.bytes > 256\/(AV.eX z).cells.length≠i.size then none else
   match s,x with
   | .s a n c es, .s _ k _ _=>
    match k with
    | 0=>some ([],s, .none)
    | _+1=>
     match oH i.size x g with
     | none=>none
     | some (c1,new)=>
      if new.E5=false then none else
      match a,c with
      | none,_=>some ((((n:Int)+k),1073741824)::c1, .s (some (nx,0)) k none i.size, .push (.cells new false))
      | some (d,o),some C=>
       match oH i.size s g with
       | none=>none
       | some (c2,old)=>
        if es=i.size then
        match old.cat new with
        | none=>none
        | some (c3,all)=>some ((((n:Int)+k),1073741824)::((C:Int)+1,(n:Int)+k)::(c1++c2++c3), .s (some (nx,0)) (n+k) none i.size, .push (.cells all false))
        else none
      | some (d,o),none=>
       match g d with
       | some (.cells old false)=>
        if o=0/\es=i.size/\(n=0\/old.size=n*es) then
         match (if n=0 then AC.l [] else old).cat new with
         | none=>none
         | some (c3,all)=>some ((((n:Int)+k),1073741824)::(c1++c3), .s (some (nx,0)) (n+k) none i.size, .move d (.cells all false))
        else none
       | _=>none
   | _,_=>none
  | none=>none
 | _=>none
def Fy (P:Program) (t:TypeId) (s x:AV) (nx:Nat):Out:=
 match P.underlying t,s,x with
 | some (.slice e), .s none _ _ _, .i .i64 (some k)=>match P.info? e with
  | some i=>match i.zero with
   | none=>none
   | some z=>
    if i.size=0\/i.bytes > 256\/(AV.eX z).cells.length≠i.size\/k < 1\/4096 < k then none
    else some ([], .s (some (nx,0)) k.toNat none i.size, .push (.cells (.l (List.replicate k.toNat (AV.eX z).cells).flatten) false))
  | none=>none
 | _,_,_=>none
def AC.splice:AC->Nat->AC->Option (aS×AC)
 | .l xs,o, .l ys=>some ([((o+ys.length:Nat),(xs.length:Int))], .l (xs.take o++ys++xs.drop (o+ys.length)))
 | .u v n,o, .l ys=>(wJ v ys).map fun c=>(((o+ys.length:Nat),(n:Int))::c, .u v n)
 | .u (.f .top) n,o, .u (.f .top) m=>some ([((o+m:Nat),(n:Int))], .u (.f .top) n)
 | _,_,_=>none
def T9 (P:Program) (t:TypeId) (dst src:AV) (g:Mem):Out:=
 match P.underlying t with
 | some (.slice e)=>match bu P e with
  | none=>none
  | some z=>
   match dst,src with
   | .s a n c es, .s b m c' es'=>
    match min m n with
    | 0=>some ([], .i .i64 (some 0), .none)
    | q+1=>
     match oH z (.s b (q+1) c' es') g,a with
     | some (c1,new),some (d,o)=>
      if es=z/\new.E5=true then
       match g d with
       | some (.cells old false)=>match old.splice o new with
        | some (c2,all)=>some (c1++c2, .i .i64 (some ((q+1:Nat):Int)), .set d (.cells all false))
        | none=>none
       | _=>none
      else none
     | _,_=>none
   | _,_=>none
 | _=>none
mutual
def AV.sameKey:AV->AV->Option Bool
 | .i k (some a), .i k' (some b)=>if k=k' then some (a==b) else none
 | .agg xs, .agg ys=>lX xs ys
 | _,_=>none
def lX:List AV->List AV->Option Bool
 | [],[]=>some true
 | a::ae,b::bs=>match AV.sameKey a b,lX ae bs with
  | some x,some y=>some (x&&y)
  | _,_=>none
 | _,_=>none
end
def iR (P:Program) (t:TypeId):AV->Bool
 | .i k (some _)=>match P.underlying t with
  | some (.int k')=>k=k'
  | _=>false
 | .agg xs=>match P.underlying t with
  | some (.array n e)=>match P.underlying e with
   | some (.int k)=>xs.length==n&&decide (n<=4)&&bu P e==some 1&&!P.eqGuardType P.depth t&&xs.all fun | .i k' (some _)=>k=k' | _=>false
   | _=>false
  | _=>false
 | _=>false
def je (x:AV):List (AV×AV)->Option (Option AV)
 | []=>some none
 | (k,v)::r=>match x.sameKey k with
  | some true=>some (some v)
  | some false=>je x r
  | none=>none
def Pv (x v:AV):List (AV×AV)->List (AV×AV)
 | []=>[(x,v)]
 | (k,u)::r=>if x.sameKey k=some true then (x,v)::r else (k,u)::Pv x v r
def KT (P:Program) (t:TypeId) (m k v:AV) (g:Mem):Option Ef:=
 match P.underlying t,m with
 | some (.map kt _), .m (some r)=>
  match g r with
  | some (.map es)=>if iR P kt k/\es.all (fun e=>iR P kt e.1)/\(je k es).isSome then some (.set r (.map (Pv k v es))) else none
  | _=>none
 | _,_=>none
def oneOf (k:AV) (es:List (AV×AV)):Bool:=es.all (fun e=>(k.sameKey e.1).isSome)&&decide ((es.filter fun e=>k.sameKey e.1==some true).length<=1)
def KU (P:Program) (t:TypeId) (m k:AV) (ok:Bool) (g:Mem):Option AV:=
 match P.underlying t,m with
 | some (.map kt e), .m (some r)=>
  match g r with
  | some (.map es)=>
   if iR P kt k/\es.all (fun e=>iR P kt e.1) then
    match je k es,qW P e with
    | some (some v),_=>some (if ok then .aF [v, .b (some true)] else v)
    | some none,some z=>some (if ok then .aF [z, .b (some false)] else z)
    | _,_=>none
   else none
  | some (.tab es)=>
   if iR P kt k/\es.all (fun e=>iR P kt e.1)/\oneOf k es then
    match je k es with
    | some (some v)=>some (if ok then .aF [v, .b (some true)] else v)
    | _=>none
   else none
  | _=>none
 | _,_=>none
def placesOf (P:Program):List Field->Option (List (Nat×Nat))
 | []=>some []
 | f::r=>match bu P f.type,placesOf P r with
  | some n,some l=>some ((f.offset,n)::l)
  | _,_=>none
def fmm (mx:Bool) (a b:Nat):Option Nat:=
 match Ieee.double.order a b with
 | none=>none
 | some .lt=>some (if mx then b else a)
 | some .gt=>some (if mx then a else b)
 | some .eq=>some (if (FloatKind.f64.decode a).neg==mx then b else a)
def FD.small:FD->Bool
 | .k w=>Nat.blt w 18446744073709551616
 | _=>true
def amm (mx:Bool) (x y:AV):Option AV:=
 match x,y with
 | .i k (some a), .i _ (some b)=>some (.i k (some (if mx then max a b else min a b)))
 | .f a, .f b=>
  if a.small&&b.small then
   match a.words,b.words with
   | some xs,some ys=>some (.f (FD.wL (xs.flatMap fun a=>ys.map fun b=>fmm mx a b)))
   | _,_=>some (.f .top)
  else none
 | _,_=>none
def ret (r:Option (aS×AV)):Out:=r.map fun p=>(p.1,p.2, .none)
noncomputable def rZ (P:Program) (md:Md) (t:List AV) (o:Oper) (g:Mem) (nx:Nat):Out:=
 match o.op with
 | .move x | .assign x=>some ([],ev t x, .none)
 | .pick c a b=>match ev t c with
  | .b (some true)=>some ([],ev t a, .none)
  | .b (some false)=>some ([],ev t b, .none)
  | _=>none
 | .alloc e=>match qW P e with
  | some z=>anew z.cells nx
  | none=>none
 | .box _ x=>anew (ev t x).cells nx
 | .build ty parts=>match P.underlying ty,qW P ty with
  | some (.struct fs),some z=>match placesOf P fs.toList with
   | some pl=>(wK (pl[·]?) z.cells (parts.toList.map fun p=>(p.1,ev t p.2))).map fun cs=>([], .agg cs, .none)
   | none=>none
  | some (.array _ e),some z=>match bu P e with
   | some n=>(wK (fun i=>some (i*n,n)) z.cells (parts.toList.map fun p=>(p.1,ev t p.2))).map fun cs=>([], .agg cs, .none)
   | none=>none
  | _,_=>none
 | .buildSlice ty len parts=>match P.underlying ty with
  | some (.slice e)=>match bu P e,qW P e with
   | some n,some z=>
    if len*n<=16777216/\n≠0/\z.cells.length=n/\z.cells.all AV.atom then
     (wK (fun i=>some (i*n,n)) ((List.replicate len z.cells).flatten) (parts.toList.map fun p=>(p.1,ev t p.2))).map fun cs=>
      ([], .s (some (nx,0)) len (some len) n, .push (.cells (.l cs) false))
    else none
   | _,_=>none
  | _=>none
 | .load ty a=>ret (CV P ty (ev t a) g)
 | .store ty a x=>(Pp P ty (ev t a) (ev t x) g).map fun p=>(p.1, .un,p.2)
 | .nilCheck x=>match ev t x with
  | .p (some a)=>some ([], .p (some a), .none)
  | _=>none
 | .binOp op ty x y _=>ret (Ps P md op ty (ev t x) (ev t y) g)
 | .unOp op _ x=>ret (aun md op (ev t x))
 | .convert src dst x=>ret (TY P md src dst (ev t x))
 | .makeFunc fn fs cs=>match fn with
  | .func f=>some ([], .fn (.func f) (fs.toList.map (ev t)) (cs.toList.map (ev t)), .none)
  | _=>none
 | .makeMap ty none=>match P.underlying ty with
  | some (.map _ _)=>some ([], .m (some nx), .push (.map []))
  | _=>none
 | .makeSlice ty l c=>TZ P md ty (ev t l) (ev t c) nx
 | .slice ty x lo hi none=>ret (Pt P ty (ev t x) (lo.map (ev t)) (hi.map (ev t)))
 | .fieldAddr s x f=>match P.underlying s,ev t x with
  | some (.struct fs), .p (some (d,o))=>match fs[f]? with
   | some fd=>match bu P fd.type with
    | some (_+1)=>some ([], .p (some (d,o+fd.offset)), .none)
    | _=>none
   | none=>none
  | _,_=>none
 | .field s x f=>match P.underlying s,ev t x with
  | some (.struct fs), .agg cs=>match fs[f]? with
   | some fd=>(TU P fd.type cs fd.offset).map fun v=>([],v, .none)
   | none=>none
  | _,_=>none
 | .indexAddr ty x ix=>match P.underlying ty,ev t x,ev t ix with
  | some (.slice e), .s (some (d,o)) n _ es, .i _ (some i)=>
   if bu P e=some es then some ([(0,i),(i+1,n)], .p (some (d,o+i.toNat*es)), .none) else none
  | some (.array n e), .p (some (d,o)), .i _ (some i)=>match bu P e with
   | some z=>some ([(0,i),(i+1,n)], .p (some (d,o+i.toNat*z)), .none)
   | none=>none
  | _,_,_=>none
 | .lookup ty m k ok=>(KU P ty (ev t m) (ev t k) ok g).map fun v=>([],v, .none)
 | .mapUpdate ty m k v | .insert ty m k v=>(KT P ty (ev t m) (ev t k) (ev t v) g).map fun h'=>([], .un,h')
 | .extract x i=>match ev t x with
  | .aF vs=>(vs[i]?).map fun v=>([],v, .none)
  | _=>none
 | .call {callee:= .builtin b,args,argTypes}=>
  match b,args.toList.map (ev t),argTypes.toList with
  | .append,[s,x],[ty,tx]=>match P.underlying tx with
   | some (.slice _)=>KS P ty s x g nx
   | some (.int .i64)=>Fy P ty s x nx
   | _=>none
  | .copy,[d,s],[ty,_]=>T9 P ty d s g
  | .len,[.s _ n _ _],[ty]=>match P.underlying ty with
   | some (.slice _)=>some ([], .i .i64 (some n), .none)
   | _=>none
  | .cap,[.s none _ _ _],[ty]=>match P.underlying ty with
   | some (.slice _)=>some ([], .i .i64 (some 0), .none)
   | _=>none
  | .max,[x,y],_=>(amm true x y).map fun v=>([],v, .none)
  | .min,[x,y],_=>(amm false x y).map fun v=>([],v, .none)
  | _,_,_=>none
 | _=>none
noncomputable def IW (P:Program) (t:List AV) (g:Mem):List ResultVar->Option (aS×List AV)
 | []=>some ([],[])
 | x::r=>match IW P t g r with
  | none=>none
  | some (c,vs)=>match x with
   | .tmp i=>some (c,slot t i::vs)
   | .cell a ty=>match CV P ty (slot t a) g with
    | some (c1,v)=>some (c1++c,v::vs)
    | none=>none
def Sl:List AV->AV
 | [v]=>v
 | vs=> .aF vs
def Exit.jump:Exit->Option (Option Code)
 | .normal=>some none
 | .ret=>some (some .ret)
 | .exit i=>some (some (.exit i))
 | .goto l=>some (some (.goto l))
 | _=>none
def eG (t:List AV) (d:Option Nat) (v:AV):List AV:=match d with
 | some d=>t.set d v
 | none=>t
inductive XK where
 | bits
 | ic
 | sqrt
 | zi
 | zk
def XK.name:XK->String
 | .bits=> "math.Float64bits"
 | .ic=> "math.Float64frombits"
 | .sqrt=> "math.sqrt"
 | .zi=> "math/bits.Add64"
 | .zk=> "math/bits.Sub64"
def WA (x:XK) (args:List AV):Option AV:=
 match x,args with
 | .bits,[.f (.k w)]=>some (.i .u64 (some w))
 | .bits,[.f _]=>some (.i .u64 none)
 | .ic,[.i .u64 (some n)]=>some (.f (.k n.toNat))
 | .ic,[.i .u64 none]=>some (.f .top)
 | .sqrt,[.f x]=>match x.words with
  | some xs=>some (.f (FD.wL (xs.map fun a=>Ieee.double.sqrt a)))
  | none=>some (.f .top)
 | .zi,[.i .u64 (some (.ofNat a)), .i .u64 (some (.ofNat b)), .i .u64 (some (.ofNat c))]=>
  if Nat.ble c 1 then some (.aF [.i .u64 (some (.ofNat ((a+b+c) % 18446744073709551616))), .i .u64 (some (.ofNat ((a+b+c) / 18446744073709551616)))]) else none
 | .zk,[.i .u64 (some (.ofNat a)), .i .u64 (some (.ofNat b)), .i .u64 (some (.ofNat c))]=>
  if Nat.ble c 1 then some (.aF [.i .u64 (some (.ofNat ((a+18446744073709551616 - b - c) % 18446744073709551616))), .i .u64 (some (.ofNat (if Nat.blt a (b+c) then 1 else 0)))]) else none
 | _,_=>none
end Go.AM
namespace Go.AM
open Go Go.RowKit
noncomputable def dB {β:Type} (n:Nat) (k:Nat->β):β:=Nat.rec (k 0) (fun m _=>k (m+1)) n
noncomputable def Pw {β:Type} (n:Int) (k:Int->β):β:=Int.rec (fun m=>dB m fun m=>k (.ofNat m)) (fun m=>dB m fun m=>k (.negSucc m)) n
theorem gJ {β:Type} (n:Nat) (k:Nat->β):dB n k=k n:=by cases n<;>rfl
theorem Sm {β:Type} (n:Int) (k:Int->β):Pw n k=k n:=by cases n<;>simp [Pw,gJ]
noncomputable def BJ {β:Type} (a:AV) (k:AV->β):β:=match a with
 | .b (some true)=>k (.b (some true))
 | .b (some false)=>k (.b (some false))
 | .i q (some n)=>Pw n fun n=>k (.i q (some n))
 | .f (.k w)=>dB w fun w=>k (.f (.k w))
 | .p (some (d,o))=>dB d fun d=>dB o fun o=>k (.p (some (d,o)))
 | .s (some (d,o)) n none e=>dB d fun d=>dB o fun o=>dB n fun n=>k (.s (some (d,o)) n none e)
 | .s (some (d,o)) n (some c) e=>dB d fun d=>dB o fun o=>dB n fun n=>dB c fun c=>k (.s (some (d,o)) n (some c) e)
 | a=>k a
theorem BK {β:Type} (a:AV) (k:AV->β):BJ a k=k a:=by
 unfold BJ
 split<;>simp [gJ,Sm]
noncomputable def xZ {β:Type} (l:List AV):(List AV->β)->β:=List.rec (fun k=>k []) (fun a _ ih k=>BJ a fun a=>ih fun r=>k (a::r)) l
theorem BL {β:Type}:∀(l:List AV) (k:List AV->β),xZ l k=k l
 | [],k=>rfl
 | a::l,k=>by
  show BJ a (fun a=>xZ l fun r=>k (a::r))=_
  rw [BK,BL l]
noncomputable def BM {β:Type} (a:AV) (k:AV->β):β:=match a with
 | .agg cs=>xZ cs fun cs=>k (.agg cs)
 | .aF cs=>xZ cs fun cs=>k (.aF cs)
 | .fn g fs cs=>xZ fs fun fs=>xZ cs fun cs=>k (.fn g fs cs)
 | a=>BJ a k
theorem BN {β:Type} (a:AV) (k:AV->β):BM a k=k a:=by
 unfold BM
 split<;>simp [BL,BK]
noncomputable def Zu {β:Type} (v:AV) (l:List AV):Nat->(List AV->β)->β:=
 List.rec (fun _ k=>k []) (fun a r ih d k=>Nat.rec (k (v::r)) (fun d _=>ih d fun r=>k (a::r)) d) l
theorem Ra {β:Type} (v:AV):∀(l:List AV) (d:Nat) (k:List AV->β),Zu v l d k=k (l.set d v)
 | [],d,k=>rfl
 | a::l,0,k=>rfl
 | a::l,d+1,k=>by
  show Zu v l d (fun r=>k (a::r))=_
  rw [Ra v l d]
  rfl
noncomputable def Px {β:Type} (c:AC) (k:AC->β):β:=match c with
 | .l cs=>xZ cs fun cs=>k (.l cs)
 | .u v n=>BJ v fun v=>dB n fun n=>k (.u v n)
noncomputable def yf {β:Type} (o:ax) (k:ax->β):β:=match o with
 | .cells c ro=>Px c fun c=>k (.cells c ro)
 | o=>k o
theorem Sn {β:Type} (c:AC) (k:AC->β):Px c k=k c:=by cases c<;>simp [Px,BL,BK,gJ]
theorem JE {β:Type} (o:ax) (k:ax->β):yf o k=k o:=by cases o<;>simp [yf,Sn]
noncomputable def dK {β:Type} (x:Option ax) (f:Nat):Nat->Tr->(Tr->β)->β:=
 Nat.rec (fun _ t k=>k t) (fun _ ih n t k=>Tr.rec (motive:=fun _=>β)
  (Bool.rec (Bool.rec (ih (n / 2 - 1) .nil fun r=>k (.node none .nil r)) (ih (n / 2) .nil fun l=>k (.node none l .nil)) (Nat.beq (n % 2) 1)) (k (.node x .nil .nil)) (Nat.beq n 0))
  (fun v l r _ _=>Bool.rec (Bool.rec (ih (n / 2 - 1) r fun r=>k (.node v l r)) (ih (n / 2) l fun l=>k (.node v l r)) (Nat.beq (n % 2) 1)) (k (.node x l r)) (Nat.beq n 0)) t) f
theorem bH {β:Type} (x:Option ax):∀(f n:Nat) (t:Tr) (k:Tr->β),dK x f n t k=k (Tr.put x f n t)
 | 0,n,t,k=>rfl
 | f+1,n,t,k=>by
  have ih:=fun n t (k:Tr->β)=>bH x f n t k
  unfold Tr.put
  by_cases h0:n=0
  ·subst h0
   cases t<;>rfl
  ·rw [if_neg h0]
   have e0:Nat.beq n 0=false:=by cases e:Nat.beq n 0 with | false=>rfl | true=>exact absurd (Nat.eq_of_beq_eq_true e) h0
   by_cases h1:n % 2=1
   ·rw [if_pos h1]
    have e1:Nat.beq (n % 2) 1=true:=by rw [Nat.beq_eq];exact h1
    cases t with
    | nil=>
     show(Bool.rec (Bool.rec (dK x f (n / 2 - 1) .nil fun r=>k (.node none .nil r)) (dK x f (n / 2) .nil fun l=>k (.node none l .nil)) (Nat.beq (n % 2) 1)) (k (.node x .nil .nil)) (Nat.beq n 0):β)=_
     rw [e0,e1]
     show dK x f (n / 2) .nil (fun l=>k (.node none l .nil))=_
     rw [ih]
     rfl
    | node v l r=>
     show(Bool.rec (Bool.rec (dK x f (n / 2 - 1) r fun r=>k (.node v l r)) (dK x f (n / 2) l fun l=>k (.node v l r)) (Nat.beq (n % 2) 1)) (k (.node x l r)) (Nat.beq n 0):β)=_
     rw [e0,e1]
     show dK x f (n / 2) l (fun l=>k (.node v l r))=_
     rw [ih]
     rfl
   ·rw [if_neg h1]
    have e1:Nat.beq (n % 2) 1=false:=by cases e:Nat.beq (n % 2) 1 with | false=>rfl | true=>exact absurd (Nat.eq_of_beq_eq_true e) h1
    cases t with
    | nil=>
     show(Bool.rec (Bool.rec (dK x f (n / 2 - 1) .nil fun r=>k (.node none .nil r)) (dK x f (n / 2) .nil fun l=>k (.node none l .nil)) (Nat.beq (n % 2) 1)) (k (.node x .nil .nil)) (Nat.beq n 0):β)=_
     rw [e0,e1]
     show dK x f (n / 2 - 1) .nil (fun r=>k (.node none .nil r))=_
     rw [ih]
     rfl
    | node v l r=>
     show(Bool.rec (Bool.rec (dK x f (n / 2 - 1) r fun r=>k (.node v l r)) (dK x f (n / 2) l fun l=>k (.node v l r)) (Nat.beq (n % 2) 1)) (k (.node x l r)) (Nat.beq n 0):β)=_
     rw [e0,e1]
     show dK x f (n / 2 - 1) r (fun r=>k (.node v l r))=_
     rw [ih]
     rfl
noncomputable def Uc {β:Type} (h:aj) (e:Ef) (k:aj->β):β:=match e with
 | .none=>k h
 | .push o=>yf o fun o=>dK (some o) (h.next+1) h.next h.t fun t=>dB (h.next+1) fun n=>k ⟨t,n,h.lo⟩
 | .set d o=>yf o fun o=>dK (some o) (d+1) d h.t fun t=>dB (min h.lo d) fun q=>k ⟨t,h.next,q⟩
 | .move d o=>yf o fun o=>dK none (d+1) d h.t fun t=>dK (some o) (h.next+1) h.next t fun t=>dB (h.next+1) fun n=>dB (min h.lo d) fun q=>k ⟨t,n,q⟩
theorem KV {β:Type} (h:aj) (e:Ef) (k:aj->β):Uc h e k=k (e.app h):=by
 cases e<;>simp [Uc,JE,bH,gJ,Ef.app,aj.push,aj.set,aj.del]
structure jw where
 t:List AV
 d:List Nat
 h:aj
def aS.test (c:aS):Bool:=c.all fun p=>decide (p.1<=p.2)
inductive gQ where
 | st (e:Exit) (s:jw)
 | val (v:AV) (h:aj)
def Ef.fits (n:Nat):Ef->Bool
 | .set d _ | .move d _=>Nat.blt d n
 | _=>true
noncomputable def after (s:jw) (d:Option Nat) (v:AV) (h:aj) (k:jw->Option gQ):Option gQ:=match d with
 | some d=>BM v fun v=>Zu v s.t d fun t=>k ⟨t,s.d,h⟩
 | none=>k ⟨s.t,s.d,h⟩
theorem lY (s:jw) (d:Option Nat) (v:AV) (h:aj) (k:jw->Option gQ):after s d v h k=k ⟨eG s.t d v,s.d,h⟩:=by
 cases d<;>simp [after,eG,BN,Ra]
noncomputable def bK (l:List Nat) (n:Nat):Bool:=List.rec false (fun a _ ih=>or (Nat.beq a n) ih) l
theorem gB {l:List Nat} {n:Nat}:bK l n=true↔n∈l:=by
 induction l with
 | nil=>exact⟨fun h=>(by cases h),fun h=>(by cases h)⟩
 | cons a l ih=>
  show(Nat.beq a n||bK l n)=true↔_
  simp only [Bool.or_eq_true,ih,List.mem_cons,Nat.beq_eq]
  exact⟨fun h=>h.elim (fun h=> .inl h.symm) .inr,fun h=>h.elim (fun h=> .inl h.symm) .inr⟩
noncomputable def BO:List Nat->Bool
 | []=>true
 | a::l=>!bK l a&&BO l
noncomputable def vk (P:Program) (fn:Func) (s:jw):Option AV:=match IW P s.t s.h.get fn.results.toList with
 | some (c,vs)=>if aS.test c&&s.d.all (fun r=>match s.h.get r with | some .ng=>true | _=>false)&&BO s.d then some (Sl vs) else none
 | none=>none
def AV.top:AV->List Nat
 | .p (some (d,_)) | .s (some (d,_)) _ _ _ | .m (some d)=>[d]
 | _=>[]
def Zv:Op->Bool
 | .call {callee:= .value _, ..}=>true
 | _=>false
def Rb:Op->Bool
 | .store .. | .insert .. | .mapUpdate .. | .call {callee:= .value _, ..} | .call {callee:= .builtin .append, ..} | .call {callee:= .builtin .copy, ..}=>true
 | _=>false
def looks:Op->Bool
 | .load .. | .binOp .eql .. | .binOp .neq .. | .lookup .. =>true
 | _=>false
noncomputable def restrict (dom:List Nat) (g:Mem):Mem:=fun d=>if bK dom d then g d else none
def Ef.old:Ef->List Nat
 | .set d _ | .move d _=>[d]
 | _=>[]
def kJ (ops:Array Oper) (o:Oper):List Nat:=
 (o.op.operands.toList.filterMap fun | .tmp t=>some t | _=>none)++
 (match o.guard with
  | some (g,_)=>((ops[g]?).bind (·.dst)).toList
  | none=>[])
structure DR where
 i:Nat
 dst:Option Nat
 kK:List Nat
 look:List Nat
 old:Option (List Nat)
 lo:Nat
 hi:Nat
 ch:Bool
 fr:Nat
def vv (o:Oper):List Nat:=(o.after.toList.filter fun e=>Region.binds .any e).map (·.on)
def MS:List DR->Nat->List Nat
 | [],_=>[]
 | b::rs,j=>if Nat.beq b.i j then b.kK else MS rs j
def kP (rs:List DR) (o:Oper):List Nat:=(vv o).flatMap fun j=>j::MS rs j
noncomputable def Ud (l:List Nat):Option Nat->Bool
 | some d=>bK l d
 | none=>false
def Rc:Option Nat->Option Nat->Bool
 | some a,some b=>Nat.beq a b
 | _,_=>false
noncomputable def E8 (rs:List DR) (i:Nat) (o:Oper) (an look:List Nat):Bool:=
 ((vv o).all fun j=>rs.any fun b=>Nat.beq b.i j)&&
 rs.all fun b=>!Nat.beq b.i i&&!bK b.kK i&&!Rc o.dst b.dst&&(bK an b.i||(!Ud look b.dst&&!Ud b.look o.dst))
noncomputable def DR.wrote (r:DR) (d:Nat):Bool:=(Nat.ble r.lo d&&Nat.blt d r.hi)||(match r.old with
 | some l=>bK l d
 | none=>Nat.ble r.fr d&&Nat.blt d r.lo)
noncomputable def Zw (rs:List DR) (an dom:List Nat):Bool:=rs.all fun b=>bK an b.i||dom.all fun d=>!b.wrote d
def waits (ops:Array Oper):Nat->Nat->List Nat
 | 0,_=>[]
 | f+1,i=>match ops[i]? with
  | some o=>(vv o).flatMap fun j=>waits ops f j++[j]
  | none=>[]
def WB (ops:Array Oper):List Nat:=
 ((List.range ops.size).flatMap fun i=>match ops[i]? with
  | some o=>if Rb o.op then waits ops ops.size i++[i] else []
  | none=>[])++((List.range ops.size).flatMap fun i=>waits ops ops.size i++[i])
noncomputable def dedup:List Nat->List Nat->List Nat
 | [],seen=>seen.reverse
 | i::l,seen=>if bK seen i then dedup l seen else dedup l (i::seen)
inductive Task where
 | code (ro:Option Nat) (c:Code) (s:jw)
 | ops (ro:Option Nat) (ops:Array Oper) (l:List Nat) (s:jw)
 | draw (ro:Option Nat) (ops:Array Oper) (l:List Nat) (rs:List DR) (s:jw)
 | op (ro:Option Nat) (o:Oper) (s:jw)
 | fn (f:FuncId) (args:List AV) (h:aj)
def gQ.andSt (r:Option gQ) (k:jw->Option gQ):Option gQ:=match r with
 | some (.st .normal s)=>k s
 | _=>none
noncomputable def KW (ops:Array Oper) (t:List AV) (o:Oper):Option Bool:=match o.guard with
 | none=>some true
 | some (j,want)=>match (ops[j]?).bind (·.dst) with
  | some d=>match slot t d with
   | .b (some b)=>some (b==want)
   | .aF _=>some false
   | _=>none
  | none=>none
def Re (h:aj):aj:={h with lo:=h.next}
def Py (lo:Nat) (h:aj):aj:={h with lo:=min lo h.lo}
abbrev eP:=Task->Option gQ
noncomputable def Zx (rec:eP) (ro:Option Nat) (b:Code) (r:Option gQ):Option gQ:=match r with
 | some (.st .normal s)=>rec (.code ro b s)
 | r=>r
noncomputable def Ue (rec:eP) (ro:Option Nat) (a b:Code) (s:jw) (v:AV):Option gQ:=match v with
 | .b (some true)=>rec (.code ro a s)
 | .b (some false)=>rec (.code ro b s)
 | _=>none
noncomputable def Pz (i:Nat) (r:Option gQ):Option gQ:=match r with
 | some (.st (.exit j) s)=>if j=i then some (.st .normal s) else some (.st (.exit j) s)
 | r=>r
noncomputable def Uf (r:Option gQ):Option gQ:=match r with
 | some (.st (.goto _) _)=>none
 | r=>r
noncomputable def Ug (ro:Option Nat) (s:jw):Option (List Nat×Nat×aj):=match ro with
 | none=>some (s.h.next::s.d,s.h.next,s.h.push .ng)
 | some l0=>match s.h.get l0 with
  | some (.loop r0)=>some (s.d,r0.defers,s.h)
  | _=>none
noncomputable def XU (rec:eP) (ro:Option Nat) (s:jw) (d:List Nat) (l:Nat) (h2:aj) (r:Fx):Option gQ:=
 if r.state= .busy then none else
 match r.pending with
 | none=>some (.st .normal ⟨s.t,d,h2.set l (.loop {r with state:= .exhausted})⟩)
 | some c=>rec (.code ro c ⟨s.t,d,h2.set l (.loop {r with state:= .exhausted})⟩)
noncomputable def Zy (rec:eP) (ro:Option Nat) (s:jw) (d:List Nat) (l:Nat) (r:Option gQ):Option gQ:=match r with
 | some (.val _ h2)=>match h2.get l with
  | some (.loop r)=>XU rec ro s d l h2 r
  | _=>none
 | _=>none
noncomputable def Rf (rec:eP) (ro:Option Nat) (f:FuncId) (fs cs:List AV) (ps:Array Tmp) (assign body:Code) (s:jw) (e:Option (List Nat×Nat×aj)):Option gQ:=match e with
 | none=>none
 | some (d,df,h1)=>Zy rec ro s d h1.next (rec (.fn f (fs++[.fn (.yield h1.next) [] []]++cs) (h1.push (.loop {state:= .ready,pending:=none,tmps:=s.t,params:=ps,assign,body,defers:=df}))))
noncomputable def PD (rec:eP) (ro:Option Nat) (ps:Array Tmp) (assign body:Code) (s:jw) (g:AV):Option gQ:=match g with
 | .fn (.func f) fs cs=>Rf rec ro f fs cs ps assign body s (Ug ro s)
 | _=>none
noncomputable def Rh (rec:eP) (ro:Option Nat) (ops:Array Oper) (s:jw):Bool->Option gQ
 | false=>rec (.ops ro ops (List.range ops.size) s)
 | true=>rec (.draw ro ops (dedup (WB ops) []) [] s)
noncomputable def XV (rec:eP) (ro:Option Nat) (s:jw):Code->Option gQ
 | .skip=>some (.st .normal s)
 | .label _=>some (.st .normal s)
 | .ret=>some (.st .ret s)
 | .exit i=>some (.st (.exit i) s)
 | .goto l=>some (.st (.goto l) s)
 | .seq a b=>Zx rec ro b (rec (.code ro a s))
 | .cond c a b=>Ue rec ro a b s (ev s.t c)
 | .block i a=>Pz i (rec (.code ro a s))
 | .loop a=>Zx rec ro (.loop a) (rec (.code ro a s))
 | .scope a=>Uf (rec (.code ro a s))
 | .region _ ops d=>Rh rec ro ops s d
 | .rangeFunc g ps assign body=>PD rec ro ps assign body s (ev s.t g)
 | .refuse _=>none
noncomputable def XW (rec:eP) (ro:Option Nat) (ops:Array Oper) (l:List Nat) (s:jw) (d:Option Nat) (r:Option gQ):Option gQ:=match r with
 | some (.val v h)=>after s d v h fun s=>rec (.ops ro ops l s)
 | _=>none
noncomputable def Uh (rec:eP) (ro:Option Nat) (ops:Array Oper) (l:List Nat) (s:jw) (o:Oper) (w:Option Bool):Option gQ:=match w with
 | some true=>XW rec ro ops l s o.dst (rec (.op ro o s))
 | some false=>after s o.dst .un s.h fun s=>rec (.ops ro ops l s)
 | none=>none
noncomputable def XX (rec:eP) (ro:Option Nat) (ops:Array Oper) (l:List Nat) (s:jw) (o:Option Oper):Option gQ:=match o with
 | none=>rec (.ops ro ops l s)
 | some o=>Uh rec ro ops l s o (KW ops s.t o)
noncomputable def Zz (rec:eP) (ro:Option Nat) (ops:Array Oper) (s:jw):List Nat->Option gQ
 | []=>some (.st .normal s)
 | i::l=>XX rec ro ops l s ops[i]?
noncomputable def JF (rec:eP) (ro:Option Nat) (ops:Array Oper) (l:List Nat) (rs:List DR) (s:jw) (i:Nat) (d:Option Nat) (an look:List Nat) (r:Option gQ):Option gQ:=match r with
 | some (.val v g)=>after s d v (Py s.h.lo g) fun s'=>rec (.draw ro ops l (⟨i,d,an,look,if Nat.blt g.lo s.h.next then none else some [],s.h.next,s'.h.next,true,g.lo⟩::rs) s')
 | _=>none
noncomputable def MU (rec:eP) (ro:Option Nat) (ops:Array Oper) (l:List Nat) (rs:List DR) (s:jw) (i:Nat) (d:Option Nat) (an look:List Nat) (r:Out):Option gQ:=match r with
 | some (c,v,e)=>
  if aS.test c&&e.fits s.h.next then Uc s.h e fun h=>after s d v h fun s'=>rec (.draw ro ops l (⟨i,d,an,look,some e.old,s.h.next,s'.h.next,true,0⟩::rs) s') else none
 | none=>none
noncomputable def Ri (rec:eP) (ro:Option Nat) (ops:Array Oper) (l:List Nat) (rs:List DR) (s:jw) (i:Nat) (d:Option Nat) (an look:List Nat) (r:Out):Option gQ:=match r with
 | some (c,v, .none)=>
  if aS.test c then after s d v s.h fun s'=>rec (.draw ro ops l (⟨i,d,an,look,some [],s.h.next,s.h.next,false,0⟩::rs) s') else none
 | some (c,v, .push (.cells ac false))=>
  if aS.test c then Uc s.h (.push (.cells ac false)) fun h=>after s d v h fun s'=>rec (.draw ro ops l (⟨i,d,an,look,some [],s.h.next,s'.h.next,false,0⟩::rs) s') else none
 | _=>none
noncomputable def Ui (P:Program) (rec:eP) (ro:Option Nat) (ops:Array Oper) (l:List Nat) (rs:List DR) (s:jw) (i:Nat) (o:Oper) (an look dom:List Nat):Option gQ:=
 if Zw rs an dom then Ri rec ro ops l rs s i o.dst an look (rZ P .run s.t o (restrict dom s.h.get) s.h.next) else none
noncomputable def PE (P:Program) (rec:eP) (ro:Option Nat) (ops:Array Oper) (l:List Nat) (rs:List DR) (s:jw) (i:Nat) (o:Oper) (an look:List Nat) (w:Option Bool):Option gQ:=match w with
 | some true=>
  if Rb o.op then
   if rs.all fun b=>bK an b.i then
    if Zv o.op then JF rec ro ops l rs s i o.dst an look (rec (.op ro o ⟨s.t,s.d,Re s.h⟩))
    else MU rec ro ops l rs s i o.dst an look (rZ P .run s.t o s.h.get s.h.next)
   else none
  else Ui P rec ro ops l rs s i o an look (if looks o.op then o.op.operands.toList.flatMap fun x=>(ev s.t x).top else [])
 | some false=>after s o.dst .un s.h fun s'=>rec (.draw ro ops l (⟨i,o.dst,an,look,some [],s.h.next,s.h.next,false,0⟩::rs) s')
 | none=>none
noncomputable def Uj (P:Program) (rec:eP) (ro:Option Nat) (ops:Array Oper) (l:List Nat) (rs:List DR) (s:jw) (i:Nat) (o:Oper) (an look:List Nat):Option gQ:=
 if E8 rs i o an look then PE P rec ro ops l rs s i o an look (KW ops s.t o) else none
noncomputable def Uk (P:Program) (rec:eP) (ro:Option Nat) (ops:Array Oper) (l:List Nat) (rs:List DR) (s:jw) (i:Nat) (o:Option Oper):Option gQ:=match o with
 | none=>none
 | some o=>Uj P rec ro ops l rs s i o (kP rs o) (kJ ops o)
noncomputable def Rj (P:Program) (rec:eP) (ro:Option Nat) (ops:Array Oper) (rs:List DR) (s:jw):List Nat->Option gQ
 | []=>if (List.range ops.size).all fun i=>rs.any fun b=>Nat.beq b.i i then some (.st .normal s) else none
 | i::l=>Uk P rec ro ops l rs s i ops[i]?
noncomputable def ZA (h:aj) (r:Out):Option gQ:=match r with
 | some (c,v,e)=>if aS.test c&&e.fits h.next then Uc h e fun h=>some (.val v h) else none
 | none=>none
noncomputable def Rk (l:Nat) (e:Exit) (s2:jw):Option gQ:=match s2.h.get l,Exit.jump e,s2.d with
 | some (.loop r2),some j,[]=>some (.val (.b (some j.isNone)) (s2.h.set l (.loop {r2 with state:=if j.isNone then .ready else .done,pending:=j})))
 | _,_,_=>none
noncomputable def Rl (l:Nat) (r:Option gQ):Option gQ:=match r with
 | some (.st e s2)=>Rk l e s2
 | _=>none
noncomputable def Rm (rec:eP) (l:Nat) (body:Code) (s1:jw) (o:Option ax):Option gQ:=match o with
 | some (.loop r1)=>match r1.state with
  | .ready=>Rl l (rec (.code (some l) body ⟨s1.t,s1.d,s1.h.set l (.loop {r1 with state:= .busy})⟩))
  | _=>none
 | _=>none
noncomputable def Rn (rec:eP) (l:Nat) (body:Code) (r:Option gQ):Option gQ:=match r with
 | some (.st .normal s1)=>Rm rec l body s1 (s1.h.get l)
 | _=>none
noncomputable def PG (rec:eP) (l:Nat) (args:List AV) (h:aj) (o:Option ax):Option gQ:=match o with
 | some (.loop r)=>
  if r.params.size=args.length then Rn rec l r.body (rec (.code (some l) r.assign ⟨(r.params.toList.zip args).foldl (fun t p=>t.set p.1 p.2) r.tmps,[],h⟩)) else none
 | _=>none
noncomputable def kExt (h:aj) (v:Option AV):Option gQ:=match v with
 | some v=>some (.val v h)
 | none=>none
def CW:List (Nat×XK)->Nat->Option XK
 | [],_=>none
 | (f,x)::r,g=>if f=g then some x else CW r g
abbrev iY:=FuncId->List AV->aj->Option (AV×aj)
noncomputable def kOra (rec:eP) (f:FuncId) (args:List AV) (h:aj):Option (AV×aj)->Option gQ
 | none=>rec (.fn f args h)
 | some (v,h')=>some (.val v h')
noncomputable def Ul (O:iY) (rec:eP) (f:FuncId) (args:List AV) (h:aj):Option XK->Option gQ
 | none=>kOra rec f args h (O f args h)
 | some x=>kExt h (WA x args)
noncomputable def XY (X:List (Nat×XK)) (O:iY) (rec:eP) (args:List AV) (h:aj) (g:AV):Option gQ:=match g with
 | .fn (.func f) fs cs=>Ul O rec f (fs++args++cs) h (CW X f)
 | .fn (.yield l) [] []=>PG rec l args h (h.get l)
 | _=>none
noncomputable def kOp (P:Program) (X:List (Nat×XK)) (O:iY) (rec:eP) (o:Oper) (s:jw):Op->Option gQ
 | .call {callee:= .value g,args,argTypes:=_}=>XY X O rec (args.toList.map (ev s.t)) s.h (ev s.t g)
 | _=>ZA s.h (rZ P .run s.t o s.h.get s.h.next)
noncomputable def WC (h:aj) (v:Option AV):Option gQ:=match v with
 | some v=>some (.val v h)
 | none=>none
def aj.eQ (h:aj):List Nat->aj
 | []=>h
 | d::l=>aj.eQ (h.del d) l
noncomputable def kFn3 (P:Program) (fn:Func) (r:Option gQ):Option gQ:=match r with
 | some (.st .normal s)=>WC (s.h.eQ s.d) (vk P fn s)
 | some (.st .ret s)=>WC (s.h.eQ s.d) (vk P fn s)
 | _=>none
noncomputable def kFn2 (P:Program) (rec:eP) (args:List AV) (h:aj) (fn:Func):Option Code->Option gQ
 | none=>none
 | some c=>kFn3 P fn (rec (.code none c ⟨args++List.replicate (fn.ntmps - args.length) .un,[],h⟩))
noncomputable def kFn (P:Program) (rec:eP) (args:List AV) (h:aj) (fn:Option Func):Option gQ:=match fn with
 | none=>none
 | some fn=>kFn2 P rec args h fn fn.body
noncomputable def XZ (P:Program) (X:List (Nat×XK)) (O:iY) (rec:eP):Task->Option gQ
 | .code ro c s=>XV rec ro s c
 | .ops ro ops l s=>Zz rec ro ops s l
 | .draw ro ops l rs s=>Rj P rec ro ops rs s l
 | .op _ o s=>kOp P X O rec o s o.op
 | .fn f args h=>kFn P rec args h P.funcs[f]?
noncomputable def run (P:Program) (X:List (Nat×XK)) (O:iY) (n:Nat):Task->Option gQ:=Nat.rec (fun _=>none) (fun _ ih t=>XZ P X O ih t) n
end Go.AM
namespace Go.AM
open Go Go.RowKit
def Ef.mem (g:Mem) (N:Nat):Ef->Mem
 | .none=>g
 | .push o=>Mem.push g N o
 | .set d o=>Mem.set g d o
 | .move d o=>Mem.push (Mem.del g d) N o
def Ef.TL (N:Nat):Ef->Nat
 | .none | .set .. =>N
 | .push _ | .move .. =>N+1
section
variable {P:Program} {w0:World} {σ:aZ} {g:Mem} {N:Nat} {w:World}
def Quiet (e:Ef) (σ':aZ) (N:Nat) (w w':World):Prop:=match e with
 | .none=>w'.heap=w.heap
 | .push _=>σ'.at_ N=w.heap.size/\∀r,r < w.heap.size->w'.heap[r]?=w.heap[r]?
 | _=>True
theorem Quiet.alloc {σ:aZ} {N:Nat} {w w1:World} (o:ax) (O:Obj) (n:Nat) (h:w1.heap=w.heap):Quiet (.push o) (σ.ins N w.heap.size n) N w (w1.alloc O):=
 ⟨by simp [aZ.ins],fun r hr=>by
  have:=Below.heap_alloc w1 O r (by rw [h];exact hr)
  rw [this,h]⟩
def vS (P:Program) (w0:World) (σ:aZ) (g:Mem) (N:Nat) (w:World) (s:Sem Next) (v:AV) (e:Ef):Prop:=
 ∃r w' σ',s.run P w= .ok r w'/\Post w0 σ g N w σ' (e.mem g N) (e.TL N) w'/\Quiet e σ' N w w'/\((∃x,r= .value x/\af σ' (e.TL N) v x)\/(r= .skip/\v= .un))
theorem vS.val {s:Sem Next} {v:AV} {x:Value} (r:eF σ g N w) (b:Base w0 σ g w) (h:s.run P w= .ok (.value x) w) (hv:af σ N v x):vS P w0 σ g N w s v .none:=
 ⟨_,w,σ,h,Post.refl r b,rfl, .inl ⟨x,rfl,hv⟩⟩
theorem vS.valD {s:Sem Next} {v:AV} {x:Value} (r:eF σ g N w) (b:Base w0 σ g w) (h:s.run P w= .ok (.value x) w.drew) (hv:af σ N v x):vS P w0 σ g N w s v .none:=
 ⟨_,w.drew,σ,h,Post.drew r b,rfl, .inl ⟨x,rfl,hv⟩⟩
def Gives (P:Program) (σ:aZ) (N:Nat) (w:World) (s:Sem Value) (v:AV):Prop:=∃x,af σ N v x/\(s.run P w= .ok x w\/s.run P w= .ok x w.drew)
theorem Gives.ans {s:Sem Value} {v:AV} (r:eF σ g N w) (b:Base w0 σ g w) (h:Gives P σ N w s v):vS P w0 σ g N w (do pure (.value (<- s))) v .none:=by
 obtain⟨x,hx,h | h⟩:=h
 ·exact vS.val r b (by simp [h]) hx
 ·exact vS.valD r b (by simp [h]) hx
theorem Gives.of {s:Sem Value} {v:AV} {x:Value} (h:s.run P w= .ok x w) (hx:af σ N v x):Gives P σ N w s v:=⟨x,hx, .inl h⟩
theorem ig (v:Value):af σ N (AV.gL v) v:=by
 unfold AV.gL
 split<;>simp [af,ai,IV,aZ.fn]
theorem vw (v:Value):af σ N (AV.eX v) v:=by
 unfold AV.eX
 split
 ·rename_i cs
  refine⟨cs,rfl,?_⟩
  have:∀l:List Value,ai σ N (l.map AV.gL) l:=by
   intro l
   induction l with
   | nil=>simp [ai]
   | cons a l ih=>exact⟨a,l,rfl,ig a,ih⟩
  exact this _
 ·exact ig _
theorem aN {t:List AV} {a:Act} (ht:ai σ N t a.tmps.toList) (x:Operand):af σ N (ev t x) (a.eval x):=by
 cases x with
 | tmp i=>
  have:=ht.getD i undef
  show af σ N (slot t i) (a.tmps.getD i undef)
  rw [dR]
  simpa using this
 | const v=>exact vw v
 | global q=>simp [ev,af]
 | func f=>simp [ev,af,ai,IV,aZ.fn,Act.eval]
theorem nu {t:List AV} {a:Act} (ht:ai σ N t a.tmps.toList):∀(l:List Operand),ai σ N (l.map (ev t)) (l.map a.eval)
 | []=>by simp [ai]
 | x::l=>⟨_,_,rfl,aN ht x,nu ht l⟩
theorem zl {a:AV} {v:Value} (h:af σ N a v) (ha:a.atom=true):v.oneCell'=true:=by
 cases a with
 | b x=>cases x<;>simp only [af] at h<;>first | (subst h;rfl) | (obtain⟨_,rfl⟩:=h;rfl)
 | i k x=>cases x<;>simp [af] at h<;>first | (obtain⟨_,rfl,_⟩:=h;rfl) | (subst h;rfl)
 | f x=>
  cases x with
  | top=>simp only [af] at h;obtain⟨_,rfl,_⟩:=h;rfl
  | zr=>simp only [af] at h;rcases h with rfl | rfl<;>rfl
  | k x=>simp only [af] at h;subst h;rfl
 | p x=>rcases x with _ | ⟨d,o⟩<;>simp [af] at h<;>first | (subst h;rfl) | (obtain⟨_,rfl⟩:=h;rfl)
 | s x n c e=>rcases x with _ | ⟨d,o⟩<;>simp [af] at h<;>first | (obtain⟨_,rfl⟩:=h;rfl) | (obtain⟨_,_,_,rfl,_⟩:=h;rfl)
 | m x=>cases x<;>simp [af] at h<;>first | (subst h;rfl) | (obtain⟨_,rfl⟩:=h;rfl)
 | fn g fs cs=>simp only [af] at h;obtain⟨_,_,_,rfl,_⟩:=h;rfl
 | bD=>simp [af] at h;subst h;rfl
 | agg cs=>simp [AV.atom] at ha
 | aF cs=>simp [AV.atom] at ha
 | bg=>simp [AV.atom] at ha
theorem JG:∀{ae:List AV} {vs:List Value},ai σ N ae vs->ae.all AV.atom=true->∀v∈vs,v.oneCell'=true
 | [],vs,r,_,v,hv=>by simp only [ai] at r;subst r;cases hv
 | a::ae,vs,r,h,v,hv=>by
  simp only [ai] at r
  obtain⟨x,q,rfl,h1,h2⟩:=r
  simp only [List.all_cons,Bool.and_eq_true] at h
  cases hv with
  | head=>exact zl h1 h.1
  | tail _ hm=>exact JG h2 h.2 v hm
theorem BP {a:AV} {v:Value} (h:af σ N a v) (ha:a.cells.all AV.atom=true):ai σ N a.cells v.cells.toList:=by
 cases a with
 | agg cs=>simp only [af] at h;obtain⟨vs,rfl,hr⟩:=h;exact hr
 | aF cs=>simp [AV.cells,AV.atom] at ha
 | bg=>simp [AV.cells,AV.atom] at ha
 | _=>
  have h1:=zl h (by simpa [AV.cells] using ha)
  have:v.cells=#[v]:=by cases v<;>first | rfl | (simp [Value.oneCell'] at h1)
  rw [this]
  exact ai.one h
theorem info_of_underlying {t:TypeId} {d:TypeDesc} (h:P.underlying t=some d):∃i,P.info? t=some i:=by
 unfold Program.underlying at h
 cases hi:P.info? t with
 | none=>simp [hi] at h
 | some i=>exact⟨i,rfl⟩
theorem aT {t:TypeId} {n:Nat} (h:bu P t=some n) (w:World):(sizeOf t).run P w= .ok n w:=by
 unfold bu at h
 cases hi:P.info? t with
 | none=>simp [hi] at h
 | some i=>
  simp [hi] at h
  simp [sizeOf,run_typeInfo w hi,h]
theorem jf {t:TypeId} {b:Bool} (h:BH P t=some b) (w:World):(isAgg t).run P w= .ok b w:=by
 unfold BH at h
 cases hu:P.underlying t with
 | none=>simp [hu] at h
 | some d=>
  rw [hu] at h
  cases d<;>simp at h<;>subst h<;>simp [isAgg,run_underlying hu]
theorem Um {t:TypeId} {z:AV} (h:qW P t=some z) (w:World):∃v,(zeroValue t).run P w= .ok v w/\z=AV.eX v:=by
 unfold qW at h
 cases hi:P.info? t with
 | none=>simp [hi] at h
 | some i=>
  cases hz:i.zero with
  | none=>simp [hi,hz] at h
  | some v=>
   simp [hi,hz] at h
   exact⟨v,by simp [zeroValue,run_typeInfo w hi,hz],h.symm⟩
theorem Fz (x:Bool):af σ N (.b (some x)) (.bool x):=by simp only [af]
theorem yh (x:Bool):af σ N (.b none) (.bool x):=by simp only [af];exact⟨_,rfl⟩
theorem oI (k:IntKind) (n:Int):af σ N (.i k (some n)) (.int k n):=by simp only [af]
theorem qA {k:IntKind} {n:Int} (h:k.has n):af σ N (.i k none) (.int k n):=by simp only [af];exact⟨_,rfl,h⟩
theorem MV (x:Nat):af σ N (.f (.k x)) (.float .f64 x):=by simp only [af]
theorem fw {x:Nat} (h:x < 18446744073709551616):af σ N (.f .top) (.float .f64 x):=by simp only [af];exact⟨_,rfl,h⟩
theorem ko (k:IntKind) (n:Int):k.has (k.wrap n):=by
 cases k<;>simp only [IntKind.has,IntKind.min,IntKind.max,IntKind.wrap,IntKind.signed,IntKind.bits]<;>simp<;>(try split)<;>omega
theorem jA {k:IntKind} {n:Int} (h0:k.min<=n) (h1:n<=k.max):k.wrap n=n:=by
 cases k<;>simp only [IntKind.min,IntKind.max,IntKind.wrap,IntKind.signed,IntKind.bits] at*<;>simp at*<;>(try split)<;>omega
theorem MW (k:IntKind) (n:Int) (m:Nat) (h:k.has n):k.has (n.fdiv (2 ^ m)):=by
 have hp:(0:Int) < 2 ^ m:=by exact_mod_cast Nat.two_pow_pos m
 have h1:(1:Int)<=2 ^ m:=hp
 rw [Int.fdiv_eq_ediv_of_nonneg _ (Int.le_of_lt hp)]
 generalize (2:Int) ^ m=q at*
 have a1:=Int.ediv_mul_le n (Int.ne_of_gt hp)
 have key:(0<=n->0<=n / q/\n / q<=n)/\(n < 0->n<=n / q/\n / q < 0):=by
  constructor
  ·intro hn
   exact⟨Int.ediv_nonneg hn (Int.le_of_lt hp),Int.ediv_le_self q hn⟩
  ·intro hn
   refine⟨(Int.le_ediv_iff_mul_le hp).2 ?_,Int.ediv_neg_of_neg_of_pos hn hp⟩
   have:=Int.mul_le_mul_of_nonpos_left (a:=n) (by omega) h1
   omega
 obtain⟨l,u⟩:=h
 constructor
 ·rcases Int.lt_or_le n 0 with hn | hn
  ·have:=key.2 hn;omega
  ·have:=key.1 hn
   have:k.min<=0:=by cases k<;>decide
   omega
 ·rcases Int.lt_or_le n 0 with hn | hn
  ·have:=key.2 hn
   have:0<=k.max:=by cases k<;>decide
   omega
  ·have:=key.1 hn;omega
theorem FB {md:Md} {op:BinOp} {k:IntKind} {x y:Option Int} {c:aS} {v:AV} (h:Wz md op k x y=some (c,v)) (hc:c.ok) {a b:Int} (hx:af σ N (.i k x) (.int k a)) (hy:af σ N (.i k y) (.int k b)) (t:TypeId) (hs:op≠ .shl) (hs':op≠ .shr):
  Gives P σ N w (binOp op t (.int k a) (.int k b)) v:=by
 have e:binOp op t (.int k a) (.int k b)=(match op with
   | .add | .sub | .mul=>Op.intArith op k a b
   | .quo | .rem=>Op.intDiv op k a b
   | .and | .or | .xor | .andNot=>Op.intBits op k a b
   | _=>Op.intCmp op a b):=by
  cases op<;>first | (exact absurd rfl hs) | (exact absurd rfl hs') | simp [binOp]
 rw [e]
 unfold Wz at h
 split at h
 ·rename_i a' b'
  simp only [af] at hx hy
  obtain rfl:a=a':=by injection hx
  obtain rfl:b=b':=by injection hy
  clear hx hy
  cases op<;>try (cases h;done)
  case add=>
   cases md<;>(simp only [Option.some.injEq,Prod.mk.injEq] at h;obtain⟨rfl,rfl⟩:=h)
   ·exact Gives.of (x:= .int k (k.wrap (a+b))) (by simp [Op.intArith]) (by simp [af])
   ·have h1:=hc (k.min,a+b) (by simp)
    have h2:=hc (a+b,k.max) (by simp)
    exact Gives.of (x:= .int k (k.wrap (a+b))) (by simp [Op.intArith]) (by rw [jA h1 h2];simp [af])
  case sub=>
   cases md<;>(simp only [Option.some.injEq,Prod.mk.injEq] at h;obtain⟨rfl,rfl⟩:=h)
   ·exact Gives.of (x:= .int k (k.wrap (a - b))) (by simp [Op.intArith]) (by simp [af])
   ·have h1:=hc (k.min,a - b) (by simp)
    have h2:=hc (a - b,k.max) (by simp)
    exact Gives.of (x:= .int k (k.wrap (a - b))) (by simp [Op.intArith]) (by rw [jA h1 h2];simp [af])
  case mul=>
   cases md<;>(simp only [Option.some.injEq,Prod.mk.injEq] at h;obtain⟨rfl,rfl⟩:=h)
   ·exact Gives.of (x:= .int k (k.wrap (a*b))) (by simp [Op.intArith]) (by simp [af])
   ·have h1:=hc (k.min,a*b) (by simp)
    have h2:=hc (a*b,k.max) (by simp)
    exact Gives.of (x:= .int k (k.wrap (a*b))) (by simp [Op.intArith]) (by rw [jA h1 h2];simp [af])
  case quo=>
   simp only at h
   split at h
   ·cases h
   ·rename_i hb
    simp only [Option.some.injEq,Prod.mk.injEq] at h;obtain⟨rfl,rfl⟩:=h
    exact Gives.of (x:= .int k (k.wrap (a.tdiv b))) (by simp [Op.intDiv,hb]) (by simp [af])
  case rem=>
   simp only at h
   split at h
   ·cases h
   ·rename_i hb
    simp only [Option.some.injEq,Prod.mk.injEq] at h;obtain⟨rfl,rfl⟩:=h
    exact Gives.of (x:= .int k (a.tmod b)) (by simp [Op.intDiv,hb]) (by simp [af])
  all_goals (simp only [Option.some.injEq,Prod.mk.injEq] at h;obtain⟨rfl,rfl⟩:=h)
  all_goals first
   | exact Gives.of rfl (Fz _)
   | exact Gives.of rfl (oI _ _)
 ·cases op<;>simp only [Option.some.injEq,Prod.mk.injEq] at h<;>try (cases h;done)
  all_goals obtain⟨rfl,rfl⟩:=h
  all_goals first
   | exact Gives.of rfl (yh _)
   | exact Gives.of rfl (qA (ko _ _))
theorem zm {op:BinOp} {k k':IntKind} {x y:Option Int} {v:AV} (h:Pq op k x y=some v) {a b:Int} (hx:af σ N (.i k x) (.int k a)) (hy:af σ N (.i k' y) (.int k' b)) (t:TypeId) (hs:op= .shl\/op= .shr):
  Gives P σ N w (binOp op t (.int k a) (.int k' b)) v:=by
 unfold Pq at h
 split at h
 ·cases h
 ·rename_i b'
  simp only [af] at hy
  obtain rfl:b=b':=by injection hy
  split at h
  ·cases h
  ·rename_i hb
   rcases hs with rfl | rfl<;>split at h<;>first | (cases h;done) | skip
   all_goals first | (exact absurd ‹BinOp.shl=BinOp.shr› (by decide)) | (exact absurd ‹BinOp.shr=BinOp.shl› (by decide)) | skip
   all_goals injection h with h
   all_goals subst h
   all_goals simp only [af] at hx
   ·injection hx with _ hx;subst hx
    exact Gives.of (by simp [binOp,Op.shift,hb]) (oI _ _)
   ·obtain⟨n,hn,hh⟩:=hx;injection hn with _ hn;subst hn
    exact Gives.of (x:= .int k (k.wrap (a*2 ^ (min b.toNat k.bits)))) (by simp [binOp,Op.shift,hb]) (qA (ko _ _))
   ·injection hx with _ hx;subst hx
    exact Gives.of (by simp [binOp,Op.shift,hb]) (oI _ _)
   ·obtain⟨n,hn,hh⟩:=hx;injection hn with _ hn;subst hn
    exact Gives.of (x:= .int k (a.fdiv (2 ^ (min b.toNat k.bits)))) (by simp [binOp,Op.shift,hb]) (qA (MW _ _ _ hh))
theorem FC (x y t:Nat):(Question.nanBits .f64 x y).cut t < 18446744073709551616:=by
 have e:(Question.nanBits .f64 x y).cut t=(t % 2)*9223372036854775808+9218868437227405312+1+(t / 2) % 4503599627370495:=by
  show(t % 2)*2 ^ 63+0x7ff0000000000000+1+(t / 2) % (2 ^ 52 - 1)=_
  simp only [Nat.reducePow,Nat.reduceSub]
 rw [e]
 have h1:=Nat.mod_lt t (show 0 < 2 by decide)
 have h2:=Nat.mod_lt (t / 2) (show 0 < 4503599627370495 by decide)
 generalize t % 2=p at*
 generalize t / 2 % 4503599627370495=q at*
 omega
theorem jM {x:FD} {a:Nat} (h:af σ N (.f x) (.float .f64 a)) {l:List Nat} (hl:x.words=some l):a∈l:=by
 cases x with
 | top=>cases hl
 | zr=>
  simp only [FD.words,Option.some.injEq] at hl;subst hl
  simp only [af] at h
  rcases h with h | h<;>injection h with _ h<;>subst h<;>simp
 | k w=>
  simp only [FD.words,Option.some.injEq] at hl;subst hl
  simp only [af] at h
  injection h with _ h;subst h;simp
theorem ym {l:List (Option Nat)} {r:Nat} (h:some r∈l) (hr:r < 18446744073709551616):af σ N (.f (FD.wL l)) (.float .f64 r):=by
 unfold FD.wL
 split
 ·simp only [List.mem_singleton,Option.some.injEq] at h
  subst h
  exact MV _
 ·split
  ·rename_i h0
   have:=List.all_eq_true.1 h0 _ h
   simp at this
   subst this
   exact MV _
  ·split
   ·rename_i h0
    have:=List.all_eq_true.1 h0 _ h
    simp at this
    simp only [af]
    rcases this with rfl | rfl
    ·exact .inl rfl
    ·exact .inr rfl
   ·exact fw hr
theorem yt {l:List (Option Nat)} (h:none∈l):FD.wL l= .top:=by
 unfold FD.wL
 split
 ·simp at h
 ·split
  ·rename_i h0
   have:=List.all_eq_true.1 h0 _ h
   simp at this
  ·split
   ·rename_i h0
    have:=List.all_eq_true.1 h0 _ h
    simp at this
   ·rfl
theorem FE (d:Ieee.Datum):Ieee.double.write d < 18446744073709551616:=by
 have:=Ieee.double.write_lt d
 have e:2 ^ Ieee.double.width=18446744073709551616:=by decide
 rw [e] at this
 exact this
theorem map_write_lt {o:Option Ieee.Datum} {r:Nat} (h:o.map Ieee.double.write=some r):r < 18446744073709551616:=by
 cases o with
 | none=>cases h
 | some d=>injection h with h;subst h;exact FE d
theorem ZB {op:BinOp} {a b r:Nat} (h:Zr op a b=some (some r)):r < 18446744073709551616:=by
 cases op<;>simp only [Zr,Option.some.injEq] at h<;>try (cases h;done)
 all_goals exact map_write_lt h
theorem FH {op:BinOp} {a b:Nat} {o:Option Nat} (h:Zr op a b=some o) (w:World):
  (∃r,o=some r/\(Op.floatArith op .f64 a b).run P w= .ok (.float .f64 r) w)\/(o=none/\∃r,r < 18446744073709551616/\(Op.floatArith op .f64 a b).run P w= .ok (.float .f64 r) w.drew):=by
 have hd:FloatKind.f64.format=Ieee.double:=rfl
 have hn:∀z:Option Nat,z=none->(do
   match z with
   | some r=>pure (.float .f64 r)
   | none=>pure (.float .f64 (<- choose (.nanBits .f64 a b))):Sem Value).run P w= .ok (.float .f64 ((Question.nanBits .f64 a b).cut (w.tape w.drawn (.nanBits .f64 a b)))) w.drew:=by
  intro z hz;subst hz
  simp [run_choose_drew,Question.forced]
 cases op<;>simp only [Zr,Option.some.injEq] at h<;>try (cases h;done)
 all_goals subst h
 case add=>
  cases e:Ieee.double.add a b with
  | some r=>exact .inl ⟨r,rfl,by simp [Op.floatArith,hd,e]⟩
  | none=>exact .inr ⟨rfl,_,FC a b (w.tape w.drawn (.nanBits .f64 a b)),by simp [Op.floatArith,hd,e,run_choose_drew,Question.forced]⟩
 case sub=>
  cases e:Ieee.double.sub a b with
  | some r=>exact .inl ⟨r,rfl,by simp [Op.floatArith,hd,e]⟩
  | none=>exact .inr ⟨rfl,_,FC a b (w.tape w.drawn (.nanBits .f64 a b)),by simp [Op.floatArith,hd,e,run_choose_drew,Question.forced]⟩
 case mul=>
  cases e:Ieee.double.mul a b with
  | some r=>exact .inl ⟨r,rfl,by simp [Op.floatArith,hd,e]⟩
  | none=>exact .inr ⟨rfl,_,FC a b (w.tape w.drawn (.nanBits .f64 a b)),by simp [Op.floatArith,hd,e,run_choose_drew,Question.forced]⟩
 case quo=>
  cases e:Ieee.double.div a b with
  | some r=>exact .inl ⟨r,rfl,by simp [Op.floatArith,hd,e]⟩
  | none=>exact .inr ⟨rfl,_,FC a b (w.tape w.drawn (.nanBits .f64 a b)),by simp [Op.floatArith,hd,e,run_choose_drew,Question.forced]⟩
theorem zo {op:BinOp} {x y:FD} {v:AV} (h:BI op x y=some v) {a b:Nat} (hx:af σ N (.f x) (.float .f64 a)) (hy:af σ N (.f y) (.float .f64 b)) (t:TypeId):
  Gives P σ N w (binOp op t (.float .f64 a) (.float .f64 b)) v:=by
 have hf:∃o,Zr op a b=some o/\binOp op t (.float .f64 a) (.float .f64 b)=Op.floatArith op .f64 a b:=by
  cases op<;>simp only [BI] at h<;>first | (cases h;done) | exact⟨_,rfl,by simp [binOp]⟩
 obtain⟨o,ho,e⟩:=hf
 rw [e]
 have hv:v= .f .top\/∃l,o∈l/\v= .f (FD.wL l):=by
  have:(match x.words,y.words with
   | some xs,some ys=>some (AV.f (FD.wL (xs.flatMap fun a=>ys.map fun b=>(Zr op a b).getD none)))
   | _,_=>some (.f .top))=some v:=by
   cases op<;>simp only [BI] at h<;>first | (cases h;done) | exact h
  split at this
  ·rename_i xs ys hxs hys
   injection this with this
   right
   refine⟨_,?_,this.symm⟩
   rw [List.mem_flatMap]
   refine⟨a,jM hx hxs,?_⟩
   rw [List.mem_map]
   exact⟨b,jM hy hys,by rw [ho];rfl⟩
  ·injection this with this
   exact .inl this.symm
 rcases FH (P:=P) ho w with⟨r,rfl,hr⟩ | ⟨rfl,r,hlt,hr⟩
 ·have hl:=ZB ho
  refine⟨_,?_, .inl hr⟩
  rcases hv with rfl | ⟨l,hl',rfl⟩
  ·exact fw hl
  ·exact ym hl' hl
 ·refine⟨_,?_, .inr hr⟩
  rcases hv with rfl | ⟨l,hl',rfl⟩
  ·exact fw hlt
  ·rw [yt hl'];exact fw hlt
theorem CX {op:BinOp} {x y:FD} {v:AV} (h:JC op x y=some v) {a b:Nat} (hx:af σ N (.f x) (.float .f64 a)) (hy:af σ N (.f y) (.float .f64 b)) (t:TypeId):
  Gives P σ N w (binOp op t (.float .f64 a) (.float .f64 b)) v:=by
 have e:(binOp op t (.float .f64 a) (.float .f64 b)).run P w= .ok (.bool (Sk op a b)) w:=by
  cases op<;>simp only [JC] at h<;>first | (cases h;done) | (simp [binOp,Op.floatCmp,Sk];rfl)
 have hv:v= .b none\/∃l,Sk op a b∈l/\v= .b (EZ l):=by
  have:(match x.words,y.words with
   | some xs,some ys=>some (AV.b (EZ (xs.flatMap fun a=>ys.map fun b=>Sk op a b)))
   | _,_=>some (.b none))=some v:=by
   cases op<;>simp only [JC] at h<;>first | (cases h;done) | exact h
  split at this
  ·rename_i xs ys hxs hys
   injection this with this
   right
   refine⟨_,?_,this.symm⟩
   rw [List.mem_flatMap]
   refine⟨a,jM hx hxs,?_⟩
   rw [List.mem_map]
   exact⟨b,jM hy hys,rfl⟩
  ·injection this with this
   exact .inl this.symm
 refine Gives.of e ?_
 rcases hv with rfl | ⟨l,hl,rfl⟩
 ·exact yh _
 ·unfold EZ
  split
  ·cases hl
  ·rename_i q r
   split
   ·rename_i h0
    have:Sk op a b=q:=by
     cases hl with
     | head=>rfl
     | tail _ hm=>have:=List.all_eq_true.1 h0 _ hm;simpa using this
    rw [this];exact Fz _
   ·exact yh _
theorem lZ {t:TypeId} {k:IntKind} (h:P.underlying t=some (.int k)) {cs:Array Value} {o:Nat} {v:Value} (hv:cs[o]?=some v) (w:World):(part t cs o).run P w= .ok v w:=by
 simp [part,isAgg,run_underlying h,hv]
theorem CY {xs ys:List AV} {X Y:Array Value} (hx:ai σ N xs X.toList) (hy:ai σ N ys Y.toList) (d:Nat):∀(fs:List Field) (z:Bool),JD P xs ys fs=some z->(Op.eqFields (d+1) X Y fs).run P w= .ok z w
 | [],z,h=>by simp only [JD,Option.some.injEq] at h;subst h;simp [Op.eqFields]
 | f::r,z,h=>by
  unfold JD at h
  split at h
  ·cases h
  ·rename_i hn
   split at h
   ·rename_i k0 k a k' b q hu hxa hyb hr
    split at h
    ·rename_i hk
     subst hk
     injection h with h
     obtain⟨u,hu1,hu2⟩:=hx.get hxa
     obtain⟨v,hv1,hv2⟩:=hy.get hyb
     simp only [af] at hu2 hv2
     subst hu2 hv2
     have p1:=lZ (P:=P) hu (cs:=X) (by simpa using hu1) w
     have p2:=lZ (P:=P) hu (cs:=Y) (by simpa using hv1) w
     have ih:=CY hx hy d r q hr
     simp only [Op.eqFields,ne_eq,hn,not_false_eq_true,if_true,Sem.run_bind,p1,p2,Result.andThen_ok,run_equalIn_int w d f.type k k0 a b hu]
     cases e:a==b
     ·rw [e] at h;subst h;simp
     ·rw [e] at h;simp at h;subst h;simp [ih]
    ·cases h
   ·cases h
theorem qB {t e:TypeId} (hu:P.underlying t=some (.pointer e)) (D:Nat) (b:Option Addr):(Op.equalIn (D+1) t (.pointer none) (.pointer b)).run P w= .ok b.isNone w:=by
 simp only [Op.equalIn,Sem.run_bind,run_underlying hu,Result.andThen_ok,Sem.run_pure]
theorem KX {t e:TypeId} (hu:P.underlying t=some (.pointer e)) (D:Nat) (a:Addr):(Op.equalIn (D+1) t (.pointer (some a)) (.pointer none)).run P w= .ok false w:=by
 simp only [Op.equalIn,Sem.run_bind,run_underlying hu,Result.andThen_ok,Sem.run_pure]
theorem KY {t e:TypeId} (hu:P.underlying t=some (.pointer e)) {m:Nat} (hs:bu P e=some (m+1)) (D:Nat) (a b:Addr):(Op.equalIn (D+1) t (.pointer (some a)) (.pointer (some b))).run P w=(sameAddr a b).run P w:=by
 simp only [Op.equalIn,Sem.run_bind,run_underlying hu,Result.andThen_ok,aT hs]
 rw [if_pos (by simp)]
theorem FI {t e:TypeId} (hu:P.underlying t=some (.slice e)) (D:Nat) (b:Option Addr) (n m c d:Nat):(Op.equalIn (D+1) t (.slice none n c) (.slice b m d)).run P w= .ok b.isNone w:=by
 simp only [Op.equalIn,Sem.run_bind,run_underlying hu,Result.andThen_ok,Sem.run_pure]
theorem PH {t e:TypeId} (hu:P.underlying t=some (.slice e)) (D:Nat) (a:Addr) (n m c d:Nat):(Op.equalIn (D+1) t (.slice (some a) n c) (.slice none m d)).run P w= .ok false w:=by
 simp only [Op.equalIn,Sem.run_bind,run_underlying hu,Result.andThen_ok,Sem.run_pure]
theorem JH {t:TypeId} {x y:AV} {b:Option Bool} (h:Wj P t x y=some b) {X Y:Value} (hx:af σ N x X) (hy:af σ N y Y):∃z,(Op.equal t X Y).run P w= .ok z w/\(b=none\/b=some z):=by
 suffices H:∀D,∃z,(Op.equalIn (D+1+1) t X Y).run P w= .ok z w/\(b=none\/b=some z) from H 9998
 intro D
 unfold Wj at h
 split at h
 ·rename_i hu
  simp only [af] at hx hy;subst hx hy
  injection h with h
  exact⟨_,run_equalIn_bool' w (D+1) t _ _ hu, .inr h.symm⟩
 ·rename_i p q _ hu
  injection h with h
  have ex:∀{c:Option Bool} {V:Value},af σ N (.b c) V->∃z,V= .bool z:=fun {c V} hV=>by cases c<;>simp only [af] at hV<;>first | exact⟨_,hV⟩ | (obtain⟨z,hz⟩:=hV;exact⟨z,hz⟩)
  obtain⟨z1,rfl⟩:=ex hx
  obtain⟨z2,rfl⟩:=ex hy
  exact⟨_,run_equalIn_bool' w (D+1) t _ _ hu, .inl h.symm⟩
 ·rename_i fs xs ys hu
  split at h
  ·cases h
  ·rename_i hp
   cases e:JD P xs ys fs.toList with
   | none=>rw [e] at h;cases h
   | some z=>
    rw [e] at h
    injection h with h
    simp only [af] at hx hy
    obtain⟨X,rfl,hx⟩:=hx
    obtain⟨Y,rfl,hy⟩:=hy
    have hf:P.fieldsOf t=fs:=by simp [Program.fieldsOf,hu]
    refine⟨z,?_, .inr h.symm⟩
    rw [run_equalIn_struct w (D+1) t X Y (by rw [hf];exact hu) (by simpa using hp),hf]
    exact CY hx hy D fs.toList z e
 ·rename_i e a b hu
  split at h
  ·injection h with h
   simp only [af] at hx hy;subst hx hy
   exact⟨true,qB hu _ _, .inr h.symm⟩
  ·rename_i q
   injection h with h
   obtain⟨d,o⟩:=q
   simp only [af] at hx hy;subst hx;obtain⟨_,rfl⟩:=hy
   exact⟨false,qB hu _ _, .inr h.symm⟩
  ·rename_i q
   injection h with h
   obtain⟨d,o⟩:=q
   simp only [af] at hx hy;subst hy;obtain⟨_,rfl⟩:=hx
   exact⟨false,KX hu _ _, .inr h.symm⟩
  ·rename_i d o d' o'
   split at h
   ·rename_i m hs
    split at h
    ·rename_i hd
     subst hd
     injection h with h
     simp only [af] at hx hy;obtain⟨_,rfl⟩:=hx;obtain⟨_,rfl⟩:=hy
     refine⟨o==o',?_, .inr h.symm⟩
     rw [KY hu hs]
     simp only [sameAddr,beq_self_eq_true,if_true]
     show Result.ok _ w=_
     congr 1
     by_cases e:o=o'
     ·subst e;simp
     ·have e1:(o==o')=false:=by simpa using e
      rw [e1]
      simp [e]
    ·cases h
   ·cases h
 ·rename_i e _ _ _ _ _ _ hu
  injection h with h
  simp only [af] at hx hy;obtain⟨_,rfl⟩:=hx;obtain⟨_,rfl⟩:=hy
  exact⟨true,FI hu _ _ _ _ _ _, .inr h.symm⟩
 ·rename_i e q _ _ _ _ _ _ hu
  injection h with h
  obtain⟨d,o⟩:=q
  simp only [af] at hx hy;obtain⟨_,rfl⟩:=hy;obtain⟨_,A,C,rfl,_,_,hA⟩:=hx
  cases A with
  | none=>exact absurd rfl hA.1
  | some A=>
  exact⟨false,PH hu _ _ _ _ _ _, .inr h.symm⟩
 ·rename_i e _ _ _ q _ _ _ hu
  injection h with h
  obtain⟨d,o⟩:=q
  simp only [af] at hx hy;obtain⟨_,rfl⟩:=hx;obtain⟨_,A,C,rfl,_,_,hA⟩:=hy
  cases A with
  | none=>exact absurd rfl hA.1
  | some A=>
  exact⟨false,FI hu _ _ _ _ _ _, .inr h.symm⟩
 ·cases h
end
end Go.AM
