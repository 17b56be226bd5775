/-
  A part of the proof that TopSteps answers true for every input that can be read as data.
-/
import Derived.WalkKit
import Derived.Lib.TrailingZeros
import Derived.Test.YtgledbghdhjgkaaGreatDoorChecked
import Derived.Orders
import Derived.MapKept
import Derived.Laws.NewFold
import Derived.WideMake
import Derived.StillTailTactics
import Derived.Lib.Hide
import Derived.Lib.Walk
set_option linter.unusedSimpArgs false
set_option linter.unusedVariables false
namespace Go.Proofs.YtgledbghdhjgkaaGreatDoor
open Go Go.RowKit
def MI (w:World):Prop:=∀j,j < 64->w.cell? ⟨1,j,none⟩=some (.int .u8 (Lib.deBruijn64tab.getD j 0))
set_option maxHeartbeats 400000 in
theorem tz64_core (x k idx:Nat) (w:World) (hx0:((x:Int)==0)=false)
  (key:IntKind.u64.wrap (bits BinOp.and IntKind.u64 (x:Int) (IntKind.u64.wrap (-(x:Int)))*285870213051353865) / 288230376151711744=(idx:Int))
  (hi:idx < 64) (hk:k < 64) (hcell:w.cell? ⟨1,idx,none⟩=some (.int .u8 k)):
  Calls Tryz.prog 265 #[.int .u64 x] w fun e w'=>e= .returned (.int .i64 k)/\w=w':=by
 go_enter Tryz.func265,Tryz.ntmps265
 go_wp2_with (simp only [key])
 go_ret
 exact⟨rfl,rfl⟩
theorem tz64_zero (w:World):Calls Tryz.prog 265 #[.int .u64 0] w fun e w'=>e= .returned (.int .i64 64)/\w=w':=by
 go_enter Tryz.func265,Tryz.ntmps265
 go_wp2
 go_ret
 exact⟨rfl,rfl⟩
theorem tz64_key (x a:Nat) (hx:x < 18446744073709551616) (hx0:x≠0) (hlow:x&&& (18446744073709551616 - x)=a):
  IntKind.u64.wrap (bits BinOp.and IntKind.u64 (x:Int) (IntKind.u64.wrap (-(x:Int)))*285870213051353865) / 288230376151711744=((a*285870213051353865 % 18446744073709551616 / 288230376151711744:Nat):Int):=by
 have e1:IntKind.u64.wrap (-(x:Int))=((18446744073709551616 - x:Nat):Int):=by rw [IntKind.wrap_u64];omega
 rw [e1,bits_and_u64_nat x _ hx (by omega),hlow,IntKind.wrap_u64]
 omega
theorem Pd (n:Nat) (hn:n < 18446744073709551616) (w:World) (hT:MI w):
  Calls Tryz.prog 265 #[.int .u64 (n:Int)] w fun e w'=>e= .returned (.int .i64 (Lib.ctz 64 n))/\w=w':=by
 by_cases hx0:n=0
 ·subst hx0
  exact tz64_zero w
 ·obtain⟨hlow,hk⟩:=Lib.lowest_bit 64 n hx0 hn
  obtain⟨hi,htab⟩:=Lib.deBruijn64_at _ hk
  have hc:=hT _ hi
  rw [htab] at hc
  exact tz64_core n _ _ w (by simp;omega) (tz64_key n _ hn hx0 hlow) hi hk hc
end Go.Proofs.YtgledbghdhjgkaaGreatDoor
namespace Go.Ej
open Go Go.RowKit
theorem filter_lt {α:Type} {p q:α->Bool}:∀{l:List α},(∀x∈l,q x=true->p x=true)->(∃x∈l,p x=true/\q x=false)->(l.filter q).length < (l.filter p).length
 | [],_,⟨_,h,_⟩=>by cases h
 | a::l,h,⟨x,hx,h1,h2⟩=>by
  have hle:∀(l:List α),(∀x∈l,q x=true->p x=true)->(l.filter q).length<=(l.filter p).length:=by
   intro l
   induction l with
   | nil=>intro _;exact Nat.le_refl _
   | cons b l ih=>
    intro h
    have:=ih (fun x hx=>h x (List.mem_cons_of_mem _ hx))
    have hb:=h b (List.mem_cons_self ..)
    simp only [List.filter_cons]
    cases hq:q b<;>cases hp:p b<;>simp_all<;>omega
  have hl:=hle l (fun x hx=>h x (List.mem_cons_of_mem _ hx))
  simp only [List.filter_cons]
  rcases List.mem_cons.1 hx with rfl | hx
  ·rw [h1,h2]
   simp
   omega
  ·have:=filter_lt (l:=l) (fun x hx=>h x (List.mem_cons_of_mem _ hx)) ⟨x,hx,h1,h2⟩
   have ha:=h a (List.mem_cons_self ..)
   cases hq:q a<;>cases hp:p a<;>simp_all<;>omega
def outN (n:Nat) (listed:Array Bool):Nat:=((List.range n).filter fun i=>!listed.getD i true).length
theorem Bz (listed:Array Bool) (i j:Nat) (d:Bool) (hj:j < listed.size):(listed.setIfInBounds i true).getD j d=if i=j then true else listed.getD j d:=by
 by_cases h:i=j
 ·subst h
  simp [hj]
 ·rw [if_neg h]
  exact getD_set_ne d h
theorem Pe {n i:Nat} {listed:Array Bool} (hi:i < n) (h:listed.getD i true=false):outN n (listed.setIfInBounds i true) < outN n listed:=by
 have hs:i < listed.size:=by
  apply Nat.lt_of_not_le
  intro hle
  simp [Array.getElem?_eq_none hle] at h
 apply filter_lt
 ·intro x hx hq
  by_cases hxi:i=x
  ·subst hxi
   rw [Bz _ _ _ _ hs,if_pos rfl] at hq
   cases hq
  ·rw [getD_set_ne true hxi] at hq
   exact hq
 ·refine⟨i,List.mem_range.2 hi,by rw [h];rfl,?_⟩
  rw [Bz _ _ _ _ hs,if_pos rfl]
  rfl
section
variable {P:Program} {ops:Array Oper} {Q:Exit->Act->World->Prop} {md:Region.Mode}
theorem Tx {Inv:Array Bool->Act->World->Prop} (hfin:∀listed a w,Inv listed a w->Region.ready md ops listed=[]->Q .normal a w)
  (hstep:∀listed a w i,Inv listed a w->i∈Region.ready md ops listed->wpOp P ops Q i (fun a' w'=>Inv (listed.setIfInBounds i true) a' w') a w):
  ∀fuel listed a w,outN ops.size listed<=fuel->Inv listed a w->wpAny P md ops Q fuel listed a w:=by
 intro fuel
 induction fuel with
 | zero=>
  intro listed a w h hI
  have hr:Region.ready md ops listed=[]:=by
   cases hc:Region.ready md ops listed with
   | nil=>rfl
   | cons x l=>
    have hx:x∈Region.ready md ops listed:=by rw [hc];exact List.mem_cons_self ..
    obtain⟨h0,o,ho,_⟩:=mem_ready.1 hx
    have hlt:x < ops.size:=(Array.getElem?_eq_some_iff.1 ho).1
    have:=Pe hlt h0
    omega
  exact⟨hr,hfin _ _ _ hI hr⟩
 | succ fuel ih=>
  intro listed a w h hI
  refine⟨hfin _ _ _ hI,fun i hi=>wpOp_mono (fun a w hh=>ih _ _ _ ?_ hh) (hstep _ _ _ i hI hi)⟩
  obtain⟨h0,o,ho,_⟩:=mem_ready.1 hi
  have hlt:i < ops.size:=(Array.getElem?_eq_some_iff.1 ho).1
  have:=Pe hlt h0
  omega
theorem QU {listed:Array Bool} (hs:listed.size=ops.size) (hops:∀(i:Nat) (o:Oper),ops[i]?=some o->∀e∈o.after,e.on < i) (h:Region.ready md ops listed=[]):∀i,i < ops.size->listed.getD i false=true:=by
 intro i
 induction i using Nat.strongRecOn with
 | ind i ih=>
  intro hi
  cases hc:listed.getD i false with
  | true=>rfl
  | false=>
   exfalso
   have hc':listed.getD i true=false:=by
    rw [<- hs] at hi
    simp [hi] at hc ⊢
    exact hc
   have:i∈Region.ready md ops listed:=mem_ready.2 ⟨hc',ops[i],by simp [hi],fun e he _=>by
    have:=hops i ops[i] (by simp [hi]) e he
    exact ih _ this (by omega)⟩
   rw [h] at this
   cases this
variable {i:Nat} {o:Oper} {a:Act} {w w':World} {K:Act->World->Prop}
theorem qU {v:Value} (hi:ops[i]?=some o) (hg:o.guard=none) (hr:(execOp a.eval o).run P w= .ok (.value v) w') (h:K (a.put o.dst v) w'):wpOp P ops Q i K a w:=by
 unfold wpOp
 simp only [hi]
 rw [if_pos (by unfold Region.wanted;rw [hg])]
 left
 unfold Oper.wp
 rw [hr]
 exact h
theorem wpOp_s (hi:ops[i]?=some o) (hg:o.guard=none) (hr:(execOp a.eval o).run P w= .ok .skip w') (h:K (a.put o.dst undef) w'):wpOp P ops Q i K a w:=by
 unfold wpOp
 simp only [hi]
 rw [if_pos (by unfold Region.wanted;rw [hg])]
 left
 unfold Oper.wp
 rw [hr]
 exact h
theorem VZ {f:FuncId} {args:Array Value} (hi:ops[i]?=some o) (hg:o.guard=none) (hr:(execOp a.eval o).run P w= .ok (.enter f args) w') (h:Calls P f args w' fun e w''=>∃v,e= .returned v/\K (a.put o.dst v) w''):wpOp P ops Q i K a w:=by
 unfold wpOp
 simp only [hi]
 rw [if_pos (by unfold Region.wanted;rw [hg])]
 left
 unfold Oper.wp
 rw [hr]
 refine Calls.mono h fun e w'' he=>?_
 obtain⟨v,rfl,hK⟩:=he
 exact hK
end
theorem XG {ops:Array Oper} (h:((List.range ops.size).all fun i=>((ops[i]?).map fun o=>o.after.all fun e=>decide (e.on < i)).getD true)=true):∀(i:Nat) (o:Oper),ops[i]?=some o->∀e∈o.after,e.on < i:=by
 intro i o ho e he
 have hi:i < ops.size:=(Array.getElem?_eq_some_iff.1 ho).1
 have h1:=List.all_eq_true.1 h i (List.mem_range.2 hi)
 rw [ho] at h1
 simp only [Option.map_some,Option.getD_some] at h1
 have:=Array.all_eq_true_iff_forall_mem.1 h1 e he
 exact of_decide_eq_true this
theorem MJ {P:Program} {K:TypeId} {key:Value} {l:List MapEntry} {d:TypeDesc} (hd:P.underlying K=some d) (hn:∀e,Instr.sameNow d key e=none) (h:∀e∈l,∀w,(Op.equal K key e.key).run P w= .ok false w):∀w,(Instr.findKey K key l).run P w= .ok none w:=by
 intro w
 have h1:∀(l:List MapEntry) (i:Nat),(∀e∈l,∀w,(Op.equal K key e.key).run P w= .ok false w)->(Instr.findAsking K key l i).run P w= .ok none w:=by
  intro l
  induction l with
  | nil=>intro i _;rfl
  | cons e l ih=>
   intro i h
   simp [Instr.findAsking,h e (by simp) w,ih (i+1) (fun x hx=>h x (by simp [hx]))]
 cases l with
 | nil=>simp [Instr.findKey,run_underlying hd,Instr.findNow]
 | cons e l=>simp [Instr.findKey,run_underlying hd,Instr.findNow,hn,h1 (e::l) 0 h]
def CU (w:World) (b:Nat) (es:Array MapEntry) (c:Nat):World:={w with heap:=w.heap.setIfInBounds b (.map es c)}
theorem XH {w:World} {b:Nat} (hb:b < w.heap.size) (es:Array MapEntry) (c:Nat):(CU w b es c).heap[b]?=some (.map es c):=by
 simp [CU,Array.getElem?_setIfInBounds,hb]
theorem R9 {w:World} {b k:Nat} (h:k≠b) (es:Array MapEntry) (c:Nat):(CU w b es c).heap[k]?=w.heap[k]?:=by
 simp only [CU,Array.getElem?_setIfInBounds]
 rw [if_neg (by omega)]
theorem QV {B:Nat} {w w1:World} (h:Below B w w1) {b:Nat} (hb:B<=b) (es:Array MapEntry) (c:Nat):Below B w (CU w1 b es c):=
 ⟨h.os,h.tape,h.output,by simpa [Ej.CU] using h.size,fun k hk=>by rw [<- h.block k hk];exact R9 (by omega) es c⟩
theorem XI {P:Program} {T K E:TypeId} {b c:Nat} {es:Array MapEntry} {key val:Value} {w:World} (ht:P.underlying T=some (.map K E)) (hb:w.heap[b]?=some (.map es c)) (hc:∀w,(Instr.checkKey false 10000 K key).run P w= .ok () w) (hf:∀w,(Instr.findKey K key es.toList).run P w= .ok none w):
  (Instr.mapUpdate T (.map (some b)) key val).run P w= .ok () (CU w b (es.push ⟨key,val,c⟩) (c+1)):=by
 simp [Instr.mapUpdate,run_underlying ht,MapKept.run_getObj_map hb,hc,hf,MapKept.run_setObj_map _ hb,Result.andThen,CU]
def iJ (a b:Int):Value:= .agg #[.int .i64 a, .int .i64 b]
end Go.Ej
namespace Go.Proofs.YtgledbghdhjgkaaGreatDoor
open Go Go.RowKit Go.Ej
theorem IM (f:FuncId) (w:World):Calls Tryz.prog 49 #[.func (.func f) #[] #[]] w fun e w'=>e= .returned (.func (.func 50) #[] #[.pointer (some ⟨w.heap.size,0,none⟩)])/\w'=w.alloc (.cells #[.func (.func f) #[] #[]] 59):=by
 go_enter Tryz.func49,Tryz.ntmps49
 go_wp2
 go_ret
 exact⟨rfl,rfl⟩
theorem Sa (f:FuncId) (w:World):((do let d <- Deferred.ofValue (.func (.func 49) #[] #[]) #[.func (.func f) #[] #[]];invoke d.target d.args):Sem Next).run Tryz.prog w= .ok (.enter 49 #[.func (.func f) #[] #[]]) w:=by kernel_rfl
noncomputable def qJ:Array Oper:=match Tryz.f20.body with
 | some (.seq _ (.seq _ (.seq (.region _ ops _) _)))=>ops
 | _=>#[]
theorem w_hops:∀(i:Nat) (o:Oper),qJ[i]?=some o->∀e∈o.after,e.on < i:=XG (by decide+kernel)
abbrev fO (x:Int):Prop:=x=0\/x=1\/x=2
theorem XJ (a b c d:Int) (ha:fO a) (hb:fO b) (hc:fO c) (hd:fO d) (w:World):(Op.equal 63 (iJ a b) (iJ c d)).run Tryz.prog w= .ok (a==c&&b==d) w:=by
 rcases ha with rfl | rfl | rfl<;>rcases hb with rfl | rfl | rfl<;>rcases hc with rfl | rfl | rfl<;>rcases hd with rfl | rfl | rfl<;>kernel_rfl
theorem XL (a b:Int) (w:World):(Instr.checkKey false 10000 63 (iJ a b)).run Tryz.prog w= .ok () w:=by kernel_rfl
theorem V3 (a b:Int) (e:Value):Instr.sameNow (.array 2 3) (iJ a b) e=none:=by cases e<;>rfl
def Pf (b0:Nat) (w:World) (f:FuncId) (v:Value):Prop:=∃B e,v= .func (.func 50) #[] #[.pointer (some ⟨B,0,none⟩)]/\b0<=B/\w.heap[B]?=some (.cells #[.func (.func f) #[] #[]] e)
def Stable (w w':World):Prop:=∀(B:Nat) (C:Array Value) (e:TypeId),w.heap[B]?=some (.cells C e)->w'.heap[B]?=some (.cells C e)
theorem Pf.later {b0 f:Nat} {w w':World} {v:Value} (h:Pf b0 w f v) (k:Stable w w'):Pf b0 w' f v:=by
 obtain⟨B,e,h1,h2,h3⟩:=h
 exact⟨B,e,h1,h2,k _ _ _ h3⟩
theorem Stable.alloc (w:World) (o:Obj):Stable w (w.alloc o):=fun B C e h=>by
 rw [Below.heap_alloc _ _ _ (Array.getElem?_eq_some_iff.1 h).1];exact h
theorem Stable.CU {w:World} {M c c':Nat} {E E':Array MapEntry} (h:w.heap[M]?=some (.map E c)):Stable w (CU w M E' c'):=fun B C e hB=>by
 rw [R9 (fun q=>by subst q;rw [h] at hB;cases hB)];exact hB
def MP (b0:Nat) (w:World):Nat->Value->Value->Prop
 | 2,k,v=>k=iJ 1 0/\v= .func (.func 52) #[] #[]
 | 4,k,v=>k=iJ 2 0/\v= .func (.func 53) #[] #[]
 | 8,k,v=>k=iJ 1 1/\Pf b0 w 52 v
 | 12,k,v=>k=iJ 2 1/\Pf b0 w 53 v
 | _,_,_=>False
theorem MP.later {b0:Nat} {w w':World} {i:Nat} {k v:Value} (h:MP b0 w i k v) (hs:Stable w w'):MP b0 w' i k v:=by
 unfold MP at*
 split at h
 ·exact h
 ·exact h
 ·exact⟨h.1,h.2.later hs⟩
 ·exact⟨h.1,h.2.later hs⟩
 ·exact h
def wH (b0:Nat) (w:World):List Nat->List MapEntry->Prop
 | [],[]=>True
 | i::L,e::E=>MP b0 w i e.key e.val/\wH b0 w L E
 | _,_=>False
theorem wH.later {b0:Nat} {w w':World} (hs:Stable w w'):∀{L:List Nat} {E:List MapEntry},wH b0 w L E->wH b0 w' L E
 | [],[],_=>trivial
 | i::L,e::E,h=>⟨h.1.later hs,h.2.later hs⟩
 | [],_::_,h=>h.elim
 | _::_,[],h=>h.elim
theorem wH.snoc {b0:Nat} {w:World} {i:Nat} {e:MapEntry} (h1:MP b0 w i e.key e.val):∀{L:List Nat} {E:List MapEntry},wH b0 w L E->wH b0 w (L++[i]) (E++[e])
 | [],[],_=>⟨h1,trivial⟩
 | _::L,_::E,h=>⟨h.1,h.2.snoc h1⟩
 | [],_::_,h=>h.elim
 | _::_,[],h=>h.elim
theorem wH.mem {b0:Nat} {w:World}:∀{L:List Nat} {E:List MapEntry},wH b0 w L E->∀e∈E,∃i∈L,MP b0 w i e.key e.val
 | [],[],_,e,he=>by cases he
 | i::L,x::E,h,e,he=>by
  rcases List.mem_cons.1 he with rfl | he
  ·exact⟨i,by simp,h.1⟩
  ·obtain⟨j,h1,h2⟩:=h.2.mem e he
   exact⟨j,by simp [h1],h2⟩
 | [],_::_,h,_,_=>h.elim
 | _::_,[],h,_,_=>h.elim
def iK:List (Nat×Nat×Value):=[(1,3,iJ 1 0),(3,4,iJ 2 0),(5,5,iJ 1 1),(9,8,iJ 2 1),(6,6, .func (.func 49) #[] #[]),(10,9, .func (.func 49) #[] #[])]
def gP:List (Nat×Nat×FuncId):=[(7,7,52),(11,10,53)]
def jv:List (Nat×Nat):=[(0,2),(13,11),(14,0)]
def V4 (b0:Nat) (listed:Array Bool) (a:Act) (w:World):Prop:=∃M E c L,(∀p∈jv,listed.getD p.1 false=true->a.tmps.getD p.2 undef= .map (some M))/\b0<=M/\w.heap[M]?=some (.map E c)/\wH b0 w L E.toList/\L.Nodup/\∀i,i∈L↔i∈[2,4,8,12]/\listed.getD i false=true
structure EX (W0:World) (listed:Array Bool) (a:Act) (w:World):Prop where
 size:listed.size=15
 ts:a.tmps.size=12
 df:a.defers=[]
 Ty:Below W0.heap.size W0 w
 t1:a.tmps.getD 1 undef= .func (.func 49) #[] #[]
 val:∀p∈iK,listed.getD p.1 false=true->a.tmps.getD p.2.1 undef=p.2.2
 trn:∀p∈gP,listed.getD p.1 false=true->Pf W0.heap.size w p.2.2 (a.tmps.getD p.2.1 undef)
 map:listed.getD 0 false=true->V4 W0.heap.size listed a w
 no:listed.getD 0 false=false->∀i∈[2,4,8,12,13,14],listed.getD i false=false
theorem qV {a:Act} {d:Nat} (v:Value) (h:d < a.tmps.size):(a.put (some d) v).tmps.getD d undef=v:=by simp [Act.put,h]
theorem mZ {a:Act} {d:Option Nat} {t:Nat} (v:Value) (h:d≠some t):(a.put d v).tmps.getD t undef=a.tmps.getD t undef:=by
 cases d with
 | none=>rfl
 | some d=>
  have:d≠t:=fun e=>h (by rw [e])
  simp [Act.put,Array.getElem?_setIfInBounds_ne this]
section
variable {W0 w w':World} {listed:Array Bool} {a:Act}
theorem EX.next (h:EX W0 listed a w) {i:Nat} {d:Option Nat} {v:Value} (hi:i < 15) (hd:∀x,d=some x->x < 12/\x≠1) (hb:Below W0.heap.size W0 w') (hst:Stable w w')
  (hv:∀p∈iK,(p.1=i->d=some p.2.1/\v=p.2.2)/\(p.1≠i->d≠some p.2.1))
  (hx:∀p∈gP,(p.1=i->d=some p.2.1/\Pf W0.heap.size w' p.2.2 v)/\(p.1≠i->d≠some p.2.1))
  (hm:(listed.setIfInBounds i true).getD 0 false=true->V4 W0.heap.size (listed.setIfInBounds i true) (a.put d v) w')
  (hn:i∈[2,4,8,12,13,14]->listed.getD 0 false=true):EX W0 (listed.setIfInBounds i true) (a.put d v) w' where
 size:=by rw [Array.size_setIfInBounds];exact h.size
 ts:=by cases d<;>simp [Act.put]<;>exact h.ts
 df:=by cases d<;>exact h.df
 Ty:=hb
 t1:=by rw [mZ v (fun e=>(hd 1 e).2 rfl)];exact h.t1
 val:=fun p hp hl=>by
  by_cases hpi:p.1=i
  ·obtain⟨rfl,rfl⟩:=(hv p hp).1 hpi
   exact qV _ (by rw [h.ts];exact(hd _ rfl).1)
  ·rw [mZ v ((hv p hp).2 hpi)]
   rw [getD_set_ne false (fun e=>hpi e.symm)] at hl
   exact h.val p hp hl
 trn:=fun p hp hl=>by
  by_cases hpi:p.1=i
  ·obtain⟨rfl,ht⟩:=(hx p hp).1 hpi
   rw [qV _ (by rw [h.ts];exact(hd _ rfl).1)]
   exact ht
  ·rw [mZ v ((hx p hp).2 hpi)]
   rw [getD_set_ne false (fun e=>hpi e.symm)] at hl
   exact(h.trn p hp hl).later hst
 map:=hm
 no:=fun hl j hj=>by
  have h0:i≠0:=fun e=>by
   subst e
   rw [Bz _ _ _ _ (by rw [h.size];omega),if_pos rfl] at hl
   cases hl
  rw [getD_set_ne false h0] at hl
  by_cases hij:i=j
  ·subst hij;rw [hn hj] at hl;cases hl
  ·rw [getD_set_ne false hij];exact h.no hl j hj
theorem V4.next {b0:Nat} (h:V4 b0 listed a w) {i:Nat} {d:Option Nat} {v:Value} (hsz:listed.size=15) (hts:a.tmps.size=12) (hi:i∉[2,4,8,12]) (h0:listed.getD 0 false=true) (hst:Stable w w') (hk:∀(M:Nat) (E:Array MapEntry) (c:Nat),w.heap[M]?=some (.map E c)->w'.heap[M]?=some (.map E c))
  (hp:∀p∈jv,(p.1=i->d=some p.2/\p.2 < 12/\v=a.tmps.getD 2 undef)/\(p.1≠i->d≠some p.2)):V4 b0 (listed.setIfInBounds i true) (a.put d v) w':=by
 obtain⟨M,E,c,L,h1,h2,h3,h4,h5,h6⟩:=h
 refine⟨M,E,c,L,fun p hpm hl=>?_,h2,hk _ _ _ h3,h4.later hst,h5,fun j=>?_⟩
 ·by_cases hpi:p.1=i
  ·obtain⟨rfl,q1,rfl⟩:=(hp p hpm).1 hpi
   rw [qV _ (by rw [hts];exact q1)]
   exact h1 (0,2) (by simp [jv]) h0
  ·rw [mZ v ((hp p hpm).2 hpi)]
   rw [getD_set_ne false (fun e=>hpi e.symm)] at hl
   exact h1 p hpm hl
 ·rw [h6]
  refine and_congr_right fun hj=>?_
  rw [getD_set_ne false (fun e=>by subst e;exact hi hj)]
theorem EX.plain (h:EX W0 listed a w) {i:Nat} {d:Option Nat} {v:Value} (hi:i < 15) (hd:∀x,d=some x->x < 12/\x≠1) (hi4:i∉[0,2,4,8,12])
  (hv:∀p∈iK,(p.1=i->d=some p.2.1/\v=p.2.2)/\(p.1≠i->d≠some p.2.1))
  (hx:∀p∈gP,(p.1=i->d=some p.2.1/\Pf W0.heap.size w p.2.2 v)/\(p.1≠i->d≠some p.2.1))
  (hp:∀p∈jv,(p.1=i->d=some p.2/\p.2 < 12/\v=a.tmps.getD 2 undef)/\(p.1≠i->d≠some p.2)) (hn:i∈[2,4,8,12,13,14]->listed.getD 0 false=true:=by intro q;exact absurd q (by decide)):EX W0 (listed.setIfInBounds i true) (a.put d v) w:=
 have hne:i≠0:=fun e=>hi4 (by simp [e])
 have h4:i∉[2,4,8,12]:=fun e=>hi4 (List.mem_cons_of_mem _ e)
 h.next hi hd h.Ty (fun _ _ _ h=>h) hv hx (fun hl=>by
  rw [getD_set_ne false hne] at hl
  exact(h.map hl).next h.size h.ts h4 hl (fun _ _ _ h=>h) (fun _ _ _ h=>h) hp) hn
theorem EX.lay (h:EX W0 listed a w) {Q:Exit->Act->World->Prop} {i:Nat} {o:Oper} (ho:qJ[i]?=some o) (hg:o.guard=none) (hdst:o.dst=none) (h0:listed.getD i true=false) {ka:Operand} {va:Operand} (hop:o.op= .insert 60 (.tmp 2) ka va)
  (hm:i∈[2,4,8,12]) (d0:listed.getD 0 false=true) {x y:Int} {v:Value} (hxs:fO x) (hys:fO y) (hk:a.eval ka=iJ x y) (hv:a.eval va=v) (hE:MP W0.heap.size w i (iJ x y) v) (hnew:∀j∈[2,4,8,12],j≠i->∀k u,MP W0.heap.size w j k u->∃c d,k=iJ c d/\fO c/\fO d/\(x==c&&y==d)=false):
  wpOp Tryz.prog qJ Q i (fun a' w'=>EX W0 (listed.setIfInBounds i true) a' w') a w:=by
 obtain⟨M,E,c,L,m1,m2,m3,m4,m5,m6⟩:=h.map d0
 have hi:i < 15:=(Array.getElem?_eq_some_iff.1 ho).1
 have hl:listed.getD i false=false:=by
  have hs:=h.size
  simp [hs,hi] at h0 ⊢
  exact h0
 have hiL:i∉L:=fun q=>by have:=((m6 i).1 q).2;rw [hl] at this;cases this
 have v2:a.tmps.getD 2 undef= .map (some M):=m1 (0,2) (by simp [jv]) d0
 have hf:∀w,(Instr.findKey 63 (iJ x y) E.toList).run Tryz.prog w= .ok none w:=MJ Tryz.underlying63 (V3 x y) fun e he w'=>by
  obtain⟨j,q1,q2⟩:=m4.mem e he
  obtain⟨c1,d1,q3,q4,q5,q6⟩:=hnew j ((m6 j).1 q1).1 (fun q=>by subst q;exact hiL q1) _ _ q2
  rw [q3,XJ x y c1 d1 hxs hys q4 q5,q6]
 have hr:=XI (w:=w) (val:=v) Tryz.underlying60 m3 (XL x y) hf
 have hst:Stable w (CU w M (E.push ⟨iJ x y,v,c⟩) (c+1)):=Stable.CU m3
 have hML:=(Array.getElem?_eq_some_iff.1 m3).1
 refine wpOp_s (w':=CU w M (E.push ⟨iJ x y,v,c⟩) (c+1)) ho hg ?_ ?_
 ·simp only [execOp,hop]
  have e2:a.eval (.tmp 2)= .map (some M):=v2
  simp only [e2,hk,hv,Sem.run_bind,hr]
  rfl
 ·rw [hdst]
  have hne:i≠0:=fun e=>by subst e;simp at hm
  refine h.next hi (fun x hx=>by cases hx) (QV h.Ty m2 _ _) hst ?_ ?_ (fun _=>⟨M,_,_,L++[i],fun p hp hl'=>?_,m2,XH hML _ _,?_,?_,fun j=>?_⟩) (fun _=>d0)
  ·intro p hp
   refine⟨fun e=>?_,fun _=>by simp⟩
   simp only [iK,List.mem_cons,List.not_mem_nil,or_false] at hp
   rcases hp with rfl | rfl | rfl | rfl | rfl | rfl<;>(subst e;simp at hm)
  ·intro p hp
   refine⟨fun e=>?_,fun _=>by simp⟩
   simp only [gP,List.mem_cons,List.not_mem_nil,or_false] at hp
   rcases hp with rfl | rfl<;>(subst e;simp at hm)
  ·have hpi:i≠p.1:=fun e=>by
    simp only [jv,List.mem_cons,List.not_mem_nil,or_false] at hp
    rcases hp with rfl | rfl | rfl<;>(subst e;simp at hm)
   rw [getD_set_ne false hpi] at hl'
   exact m1 p hp hl'
  ·have:=(m4.later hst).snoc (i:=i) (e:=⟨iJ x y,v,c⟩) (hE.later hst)
   simpa using this
  ·refine List.nodup_append.2 ⟨m5,by simp,fun x hx y hy=>?_⟩
   simp at hy;subst hy
   exact fun e=>by subst e;exact hiL hx
  ·rw [List.mem_append,List.mem_singleton,m6]
   by_cases hij:i=j
   ·subst hij
    rw [Bz _ _ _ _ (by rw [h.size];exact hi),if_pos rfl]
    simp [hm]
   ·rw [getD_set_ne false hij]
    simp [Ne.symm hij]
end
set_option maxHeartbeats 2000000 in
theorem w_step {W0:World} {Q:Exit->Act->World->Prop} (listed:Array Bool) (a:Act) (w:World) (i:Nat) (h:EX W0 listed a w) (hr:i∈Region.ready .any qJ listed):
  wpOp Tryz.prog qJ Q i (fun a' w'=>EX W0 (listed.setIfInBounds i true) a' w') a w:=by
 obtain⟨h0,o,ho,ze⟩:=mem_ready.1 hr
 have hi:i < 15:=(Array.getElem?_eq_some_iff.1 ho).1
 have e:=ho
 have other:∀{x y:Int} {i:Nat},(x,y,i)∈[((1:Int),(0:Int),2),(2,0,4),(1,1,8),(2,1,12)]->∀j∈[2,4,8,12],j≠i->∀k u,MP W0.heap.size w j k u->∃c d,k=iJ c d/\fO c/\fO d/\(x==c&&y==d)=false:=by
  intro x y i hm j hj hne k u hE
  simp only [List.mem_cons,List.not_mem_nil,or_false,Prod.mk.injEq] at hm hj
  rcases hj with rfl | rfl | rfl | rfl<;>(simp only [MP] at hE;refine⟨_,_,hE.1,by simp [fO],by simp [fO],?_⟩)<;>rcases hm with⟨rfl,rfl,rfl⟩ | ⟨rfl,rfl,rfl⟩ | ⟨rfl,rfl,rfl⟩ | ⟨rfl,rfl,rfl⟩<;>first | decide | exact absurd rfl hne
 have hc:i=0\/i=1\/i=2\/i=3\/i=4\/i=5\/i=6\/i=7\/i=8\/i=9\/i=10\/i=11\/i=12\/i=13\/i=14:=by omega
 rcases hc with rfl | rfl | rfl | rfl | rfl | rfl | rfl | rfl | rfl | rfl | rfl | rfl | rfl | rfl | rfl<;>
  (simp only [qJ,Tryz.f20,List.getElem?_toArray,List.getElem?_cons_succ,List.getElem?_cons_zero,Option.some.injEq] at e;subst e)
 ·have hl:listed.getD 0 false=false:=by
   have hs:=h.size
   simp [hs] at h0 ⊢
   exact h0
  refine qU (v:= .map (some w.heap.size)) (w':=w.alloc (.map #[] 0)) ho rfl ?_ (h.next (by decide) (by decide) (h.Ty.alloc h.Ty.size _) (Stable.alloc _ _) (by intro p hp;simp only [iK,List.mem_cons,List.not_mem_nil,or_false] at hp;rcases hp with rfl | rfl | rfl | rfl | rfl | rfl<;>simp) (by intro p hp;simp only [gP,List.mem_cons,List.not_mem_nil,or_false] at hp;rcases hp with rfl | rfl<;>simp) (fun _=>⟨w.heap.size,#[],0,[],fun p hp hl'=>?_,h.Ty.size,by show(w.heap.push _)[w.heap.size]?=_;simp,trivial,List.nodup_nil,fun j=>⟨fun q=>(by cases q),fun⟨q1,q2⟩=>?_⟩⟩) (fun q=>absurd q (by decide)))
  ·have hr:=run_makeMap_plain (P:=Tryz.prog) w 60
   simp [execOp,hr,Result.andThen]
  ·simp only [jv,List.mem_cons,List.not_mem_nil,or_false] at hp
   rcases hp with rfl | rfl | rfl
   ·exact qV _ (by rw [h.ts];decide)
   ·rw [getD_set_ne false (by decide)] at hl'
    have:=h.no hl 13 (by simp)
    rw [show(13,11).1=13 from rfl,this] at hl'
    cases hl'
   ·rw [getD_set_ne false (by decide)] at hl'
    have:=h.no hl 14 (by simp)
    rw [show(14,0).1=14 from rfl,this] at hl'
    cases hl'
  ·rw [getD_set_ne false (by rintro rfl;simp at q1)] at q2
   have:=h.no hl j (by simp at q1 ⊢;omega)
   rw [this] at q2;cases q2
 ·exact qU (v:=iJ 1 0) ho rfl (by kernel_rfl) (h.plain (by decide) (by decide) (by decide) (by intro p hp;simp only [iK,List.mem_cons,List.not_mem_nil,or_false] at hp;rcases hp with rfl | rfl | rfl | rfl | rfl | rfl<;>simp) (by intro p hp;simp only [gP,List.mem_cons,List.not_mem_nil,or_false] at hp;rcases hp with rfl | rfl<;>simp) (by intro p hp;simp only [jv,List.mem_cons,List.not_mem_nil,or_false] at hp;rcases hp with rfl | rfl | rfl<;>simp))
 ·have d0:=ze {on:=0,ground:= .data} (by simp) rfl
  have d1:=ze {on:=1,ground:= .data} (by simp) rfl
  exact h.lay (ka:= .tmp 3) (va:= .func 52) ho rfl rfl h0 rfl (by decide) d0 (x:=1) (y:=0) (by simp [fO]) (by simp [fO]) (h.val (1,3,iJ 1 0) (by simp [iK]) d1) rfl ⟨rfl,rfl⟩ (other (by simp))
 ·exact qU (v:=iJ 2 0) ho rfl (by kernel_rfl) (h.plain (by decide) (by decide) (by decide) (by intro p hp;simp only [iK,List.mem_cons,List.not_mem_nil,or_false] at hp;rcases hp with rfl | rfl | rfl | rfl | rfl | rfl<;>simp) (by intro p hp;simp only [gP,List.mem_cons,List.not_mem_nil,or_false] at hp;rcases hp with rfl | rfl<;>simp) (by intro p hp;simp only [jv,List.mem_cons,List.not_mem_nil,or_false] at hp;rcases hp with rfl | rfl | rfl<;>simp))
 ·have d0:=ze {on:=0,ground:= .data} (by simp) rfl
  have d1:=ze {on:=3,ground:= .data} (by simp) rfl
  exact h.lay (ka:= .tmp 4) (va:= .func 53) ho rfl rfl h0 rfl (by decide) d0 (x:=2) (y:=0) (by simp [fO]) (by simp [fO]) (h.val (3,4,iJ 2 0) (by simp [iK]) d1) rfl ⟨rfl,rfl⟩ (other (by simp))
 ·exact qU (v:=iJ 1 1) ho rfl (by kernel_rfl) (h.plain (by decide) (by decide) (by decide) (by intro p hp;simp only [iK,List.mem_cons,List.not_mem_nil,or_false] at hp;rcases hp with rfl | rfl | rfl | rfl | rfl | rfl<;>simp) (by intro p hp;simp only [gP,List.mem_cons,List.not_mem_nil,or_false] at hp;rcases hp with rfl | rfl<;>simp) (by intro p hp;simp only [jv,List.mem_cons,List.not_mem_nil,or_false] at hp;rcases hp with rfl | rfl | rfl<;>simp))
 ·exact qU (v:=a.tmps.getD 1 undef) ho rfl rfl (by rw [h.t1];exact h.plain (by decide) (by decide) (by decide) (by intro p hp;simp only [iK,List.mem_cons,List.not_mem_nil,or_false] at hp;rcases hp with rfl | rfl | rfl | rfl | rfl | rfl<;>simp) (by intro p hp;simp only [gP,List.mem_cons,List.not_mem_nil,or_false] at hp;rcases hp with rfl | rfl<;>simp) (by intro p hp;simp only [jv,List.mem_cons,List.not_mem_nil,or_false] at hp;rcases hp with rfl | rfl | rfl<;>simp))
 ·have d6:=ze {on:=6,ground:= .data} (by simp) rfl
  have v6:a.tmps.getD 6 undef=_:=h.val (6,6, .func (.func 49) #[] #[]) (by simp [iK]) d6
  refine VZ (f:=49) (args:=#[.func (.func 52) #[] #[]]) (w':=w) ho rfl ?_ ((IM 52 w).mono ?_)
  ·have e6:a.eval (.tmp 6)= .func (.func 49) #[] #[]:=v6
   have em:Array.map a.eval #[Operand.func 52]=#[.func (.func 52) #[] #[]]:=by simp [Act.eval]
   simp only [execOp,resolve,e6,em]
   exact Sa _ w
  ·rintro e w' ⟨rfl,rfl⟩
   refine⟨_,rfl,h.next (by decide) (by decide) (h.Ty.alloc h.Ty.size _) (Stable.alloc _ _) (by intro p hp;simp only [iK,List.mem_cons,List.not_mem_nil,or_false] at hp;rcases hp with rfl | rfl | rfl | rfl | rfl | rfl<;>simp) ?_ (fun hl=>?_) (fun q=>absurd q (by decide))⟩
   ·intro p hp
    simp only [gP,List.mem_cons,List.not_mem_nil,or_false] at hp
    rcases hp with rfl | rfl
    ·exact⟨fun _=>⟨rfl,w.heap.size,59,rfl,h.Ty.size,by show(w.heap.push _)[w.heap.size]?=_;simp⟩,fun q=>absurd rfl q⟩
    ·simp
   ·rw [getD_set_ne false (by decide)] at hl
    exact(h.map hl).next h.size h.ts (by decide) hl (Stable.alloc _ _) (fun M E c hM=>by rw [Below.heap_alloc _ _ _ (Array.getElem?_eq_some_iff.1 hM).1];exact hM) (by intro p hp;simp only [jv,List.mem_cons,List.not_mem_nil,or_false] at hp;rcases hp with rfl | rfl | rfl<;>simp)
 ·have d0:=ze {on:=0,ground:= .data} (by simp) rfl
  have d1:=ze {on:=5,ground:= .data} (by simp) rfl
  have d2:=ze {on:=7,ground:= .data} (by simp) rfl
  exact h.lay (ka:= .tmp 5) (va:= .tmp 7) ho rfl rfl h0 rfl (by decide) d0 (x:=1) (y:=1) (by simp [fO]) (by simp [fO]) (h.val (5,5,iJ 1 1) (by simp [iK]) d1) rfl ⟨rfl,h.trn (7,7,52) (by simp [gP]) d2⟩ (other (by simp))
 ·exact qU (v:=iJ 2 1) ho rfl (by kernel_rfl) (h.plain (by decide) (by decide) (by decide) (by intro p hp;simp only [iK,List.mem_cons,List.not_mem_nil,or_false] at hp;rcases hp with rfl | rfl | rfl | rfl | rfl | rfl<;>simp) (by intro p hp;simp only [gP,List.mem_cons,List.not_mem_nil,or_false] at hp;rcases hp with rfl | rfl<;>simp) (by intro p hp;simp only [jv,List.mem_cons,List.not_mem_nil,or_false] at hp;rcases hp with rfl | rfl | rfl<;>simp))
 ·exact qU (v:=a.tmps.getD 1 undef) ho rfl rfl (by rw [h.t1];exact h.plain (by decide) (by decide) (by decide) (by intro p hp;simp only [iK,List.mem_cons,List.not_mem_nil,or_false] at hp;rcases hp with rfl | rfl | rfl | rfl | rfl | rfl<;>simp) (by intro p hp;simp only [gP,List.mem_cons,List.not_mem_nil,or_false] at hp;rcases hp with rfl | rfl<;>simp) (by intro p hp;simp only [jv,List.mem_cons,List.not_mem_nil,or_false] at hp;rcases hp with rfl | rfl | rfl<;>simp))
 ·have d6:=ze {on:=10,ground:= .data} (by simp) rfl
  have v6:a.tmps.getD 9 undef=_:=h.val (10,9, .func (.func 49) #[] #[]) (by simp [iK]) d6
  refine VZ (f:=49) (args:=#[.func (.func 53) #[] #[]]) (w':=w) ho rfl ?_ ((IM 53 w).mono ?_)
  ·have e6:a.eval (.tmp 9)= .func (.func 49) #[] #[]:=v6
   have em:Array.map a.eval #[Operand.func 53]=#[.func (.func 53) #[] #[]]:=by simp [Act.eval]
   simp only [execOp,resolve,e6,em]
   exact Sa _ w
  ·rintro e w' ⟨rfl,rfl⟩
   refine⟨_,rfl,h.next (by decide) (by decide) (h.Ty.alloc h.Ty.size _) (Stable.alloc _ _) (by intro p hp;simp only [iK,List.mem_cons,List.not_mem_nil,or_false] at hp;rcases hp with rfl | rfl | rfl | rfl | rfl | rfl<;>simp) ?_ (fun hl=>?_) (fun q=>absurd q (by decide))⟩
   ·intro p hp
    simp only [gP,List.mem_cons,List.not_mem_nil,or_false] at hp
    rcases hp with rfl | rfl
    ·simp
    ·exact⟨fun _=>⟨rfl,w.heap.size,59,rfl,h.Ty.size,by show(w.heap.push _)[w.heap.size]?=_;simp⟩,fun q=>absurd rfl q⟩
   ·rw [getD_set_ne false (by decide)] at hl
    exact(h.map hl).next h.size h.ts (by decide) hl (Stable.alloc _ _) (fun M E c hM=>by rw [Below.heap_alloc _ _ _ (Array.getElem?_eq_some_iff.1 hM).1];exact hM) (by intro p hp;simp only [jv,List.mem_cons,List.not_mem_nil,or_false] at hp;rcases hp with rfl | rfl | rfl<;>simp)
 ·have d0:=ze {on:=0,ground:= .data} (by simp) rfl
  have d1:=ze {on:=9,ground:= .data} (by simp) rfl
  have d2:=ze {on:=11,ground:= .data} (by simp) rfl
  exact h.lay (ka:= .tmp 8) (va:= .tmp 10) ho rfl rfl h0 rfl (by decide) d0 (x:=2) (y:=1) (by simp [fO]) (by simp [fO]) (h.val (9,8,iJ 2 1) (by simp [iK]) d1) rfl ⟨rfl,h.trn (11,10,53) (by simp [gP]) d2⟩ (other (by simp))
 ·have d0:=ze {on:=0,ground:= .data} (by simp) rfl
  exact qU (v:=a.tmps.getD 2 undef) ho rfl rfl (h.plain (by decide) (by decide) (by decide) (by intro p hp;simp only [iK,List.mem_cons,List.not_mem_nil,or_false] at hp;rcases hp with rfl | rfl | rfl | rfl | rfl | rfl<;>simp) (by intro p hp;simp only [gP,List.mem_cons,List.not_mem_nil,or_false] at hp;rcases hp with rfl | rfl<;>simp) (by intro p hp;simp only [jv,List.mem_cons,List.not_mem_nil,or_false] at hp;rcases hp with rfl | rfl | rfl<;>simp) (fun _=>d0))
 ·have d0:=ze {on:=0,ground:= .phase} (by simp) rfl
  have d1:=ze {on:=13,ground:= .data} (by simp) rfl
  obtain⟨M,E,c,L,m1,_⟩:=h.map d0
  have e1:a.tmps.getD 11 undef=a.tmps.getD 2 undef:=by rw [m1 (13,11) (by simp [jv]) d1,m1 (0,2) (by simp [jv]) d0]
  exact qU (v:=a.tmps.getD 11 undef) ho rfl rfl (by rw [e1];exact h.plain (by decide) (by decide) (by decide) (by intro p hp;simp only [iK,List.mem_cons,List.not_mem_nil,or_false] at hp;rcases hp with rfl | rfl | rfl | rfl | rfl | rfl<;>simp) (by intro p hp;simp only [gP,List.mem_cons,List.not_mem_nil,or_false] at hp;rcases hp with rfl | rfl<;>simp) (by intro p hp;simp only [jv,List.mem_cons,List.not_mem_nil,or_false] at hp;rcases hp with rfl | rfl | rfl<;>simp) (fun _=>d0))
def V5 (w:World) (z:Ending) (w':World):Prop:=∃M E c L,z= .returned (.map (some M))/\Below w.heap.size w w'/\w.heap.size<=M/\w'.heap[M]?=some (.map E c)/\wH w.heap.size w' L E.toList/\L.Nodup/\∀i,i∈L↔i∈[2,4,8,12]
theorem Pg (w:World):Calls Tryz.prog 20 #[] w (V5 w):=by
 go_enter Tryz.func20,Tryz.ntmps20
 go_wp2_with fail
 refine wp_region_any (by kernel_rfl) ?_
 refine Tx (ops:=qJ) (Inv:=EX w.drew) ?fin (fun listed a wx i h hr=>w_step listed a wx i h hr) 15 _ _ _ (by decide+kernel) ?start
 case start=>
  refine⟨rfl,rfl,rfl,Below.refl _ _,rfl,fun p hp hl=>?_,fun p hp hl=>?_,fun hl=>(by cases hl),fun _ i hi=>?_⟩
  ·simp only [iK,List.mem_cons,List.not_mem_nil,or_false] at hp
   rcases hp with rfl | rfl | rfl | rfl | rfl | rfl<;>cases hl
  ·simp only [gP,List.mem_cons,List.not_mem_nil,or_false] at hp
   rcases hp with rfl | rfl<;>cases hl
  ·simp only [List.mem_cons,List.not_mem_nil,or_false] at hi
   rcases hi with rfl | rfl | rfl | rfl | rfl | rfl<;>rfl
 case fin=>
  intro listed a w1 h hr
  have hl:=QU h.size w_hops hr
  obtain⟨M,E,c,L,m1,m2,m3,m4,m5,m6⟩:=h.map (hl 0 (by decide))
  have h4:=m1 (14,0) (by simp [jv]) (hl 14 (by decide))
  have hB':Below w.heap.size w w1:=((Below.refl w.heap.size w).drew).trans h.Ty
  have hL:∀i,i∈L↔i∈[2,4,8,12]:=fun i=>by
   rw [m6]
   refine⟨fun q=>q.1,fun q=>⟨q,?_⟩⟩
   simp only [List.mem_cons,List.not_mem_nil,or_false] at q
   rcases q with rfl | rfl | rfl | rfl<;>exact hl _ (by decide)
  have hd:=h.df
  clear m1 m6 hl hr h
  obtain⟨tm,df⟩:=a
  obtain rfl:df=[]:=hd
  go_wp2_with fail
  go_ret
  exact⟨M,E,c,L,congrArg Ending.returned h4,hB',m2,m3,m4,m5,hL⟩
end Go.Proofs.YtgledbghdhjgkaaGreatDoor
namespace Go.Proofs.YtgledbghdhjgkaaGreatDoor
open Go Go.RowKit
def lenN (v:Value):Nat:=match v with | .slice _ n _=>n | _=>0
def XM (v:Value):Int:=match v with | .int _ n=>n | _=>0
theorem vR {W:World} {a:Addr} {v:Value} (h:W.cell? a=some v):a.block < W.heap.size:=by
 apply Nat.lt_of_not_le
 intro hle
 have e:W.heap[a.block]?=none:=Array.getElem?_eq_none hle
 simp [World.cell?,e] at h
theorem MI.below {w w':World} (h:MI w) (hb:Below w.heap.size w w'):MI w':=by
 intro j hj
 have:=h j hj
 rw [hb.cell (p:=⟨1,j,none⟩) (vR this)]
 exact this
theorem V6 {w0 w1 w2:World} (h0:Below w0.heap.size w0 w1) (h:Below w1.heap.size w1 w2):Below w0.heap.size w0 w2:=h0.trans (h.mono h0.size)
theorem Tz (a:Option Addr) (c:Nat) (w:World):
  Calls Tryz.prog 201 #[.slice a 0 c] w fun e w'=>e= .returned (.slice a 0 c)/\w=w':=by
 go_enter Tryz.func201,Tryz.ntmps201
 go_wp2_with fail
 go_loop [0] (fun v=>v= .slice a 0 c) (fun v=>lenN v)
 case atStart=>rfl
 case round=>
  subst hrel
  go_wp2_with fail
  go_ret
  exact⟨rfl,rfl⟩
set_option maxHeartbeats 1000000 in
theorem TC (b off n c:Nat) (f:Nat->Int) (w:World) (hn:n<=c) (hc:n<=68719476736) (hf:∀j,j < n->w.cell? ⟨b,off+j,none⟩=some (.int .u64 (f j))):
  Calls Tryz.prog 201 #[.slice (some ⟨b,off,none⟩) n c] w fun e w'=>∃m,m<=n/\(m=0\/f (m - 1)≠0)/\e= .returned (.slice (some ⟨b,off,none⟩) m c)/\w=w':=by
 have HF:=Lib.hid hf
 clear hf
 go_enter Tryz.func201,Tryz.ntmps201
 go_wp2_with fail
 go_loop [0] (fun v=>∃m:Nat,m<=n/\v= .slice (some ⟨b,off,none⟩) m c) (fun v=>lenN v)
 case atStart=>exact⟨n,Nat.le_refl _,rfl⟩
 case round=>
  obtain⟨m,hm,rfl⟩:=hrel
  cases m with
  | zero=>
   go_wp2_with fail
   go_ret
   exact⟨0,Nat.zero_le _, .inl rfl,rfl,rfl⟩
  | succ k=>
   have hcell:=HF.out k (by omega)
   by_cases h0:f k=0
   ·go_wp2_with fail
    exact⟨⟨k,by omega,rfl⟩,by simp [lenN]⟩
   ·go_wp2_with fail
    go_ret
    exact⟨k+1,hm, .inr h0,rfl,rfl⟩
set_option maxHeartbeats 1000000 in
theorem XN (g b n c:Nat) (a:Option Addr) (f:Nat->Int) (w:World) (ht:Calls Tryz.prog 201 #[.slice a n c] w fun e w'=>∃m,m<=n/\(m=0\/f (m - 1)≠0)/\e= .returned (.slice a m c)/\w=w')
  (hgb:g≠b) (hp:w.cell? ⟨g,0,none⟩=some (.pointer (some ⟨b,0,none⟩))) (hv:w.cell? ⟨b,0,none⟩=some (.slice a n c)) (hfz:w.frozen? ⟨b,0,none⟩=false) (hn:n<=68719476736):
  Calls Tryz.prog 259 #[.slice (some ⟨g,0,none⟩) 1 1] w fun e w'=>∃m,m<=n/\(m=0\/f (m - 1)≠0)/\(m<=4096/\e= .returned (.int .i64 0)\/e= .returned (.int .i64 2))/\w'=w.setCell ⟨b,0,none⟩ (.slice a m c):=by
 go_enter Tryz.func259,Tryz.ntmps259
 go_wp2_with fail
 go_loopw [7] (fun v wr=>(v= .int .i64 0/\wr=w)\/(v= .int .i64 1/\∃m,m<=n/\(m=0\/f (m - 1)≠0)/\m<=4096/\wr=w.setCell ⟨b,0,none⟩ (.slice a m c))) (fun v _=>(1 - XM v).toNat)
 case atStart=>exact .inl ⟨rfl,rfl⟩
 case round=>
  rcases hrel with⟨rfl,rfl⟩ | ⟨rfl,m,hm1,hm2,hm3,rfl⟩
  ·go_wp2_with (go_at_call 201;(with_reducible refine ht.mono ?_);rintro e w' ⟨m,hm1,hm2,rfl,rfl⟩)
   ·go_ret
    exact⟨m,hm1,hm2, .inr rfl,rfl⟩
   ·exact⟨.inr ⟨rfl,m,hm1,hm2,by omega,rfl⟩,by simp [XM]⟩
  ·go_wp2_with fail
   go_ret
   exact⟨m,hm1,hm2, .inl ⟨hm3,rfl⟩,rfl⟩
theorem V7 (f:Nat->Int):∀n,f n≠0->∃m,m<=n/\(∀j,j < m->f j=0)/\f m≠0
 | 0,h=>⟨0,Nat.le_refl _,fun j hj=>by omega,h⟩
 | n+1,h=>by
  by_cases h0:∃j,j<=n/\f j≠0
  ·obtain⟨j,hj,hf⟩:=h0
   have ih:∀k,k<=n->f k≠0->∃m,m<=k/\(∀j,j < m->f j=0)/\f m≠0:=by
    intro k
    induction k using Nat.strongRecOn with
    | ind k ih=>
     intro hk hf
     by_cases h1:∃i,i < k/\f i≠0
     ·obtain⟨i,hi,hfi⟩:=h1
      obtain⟨m,m1,m2⟩:=ih i hi (by omega) hfi
      exact⟨m,by omega,m2⟩
     ·exact⟨k,Nat.le_refl _,fun i hi=>Decidable.byContradiction fun q=>h1 ⟨i,hi,q⟩,hf⟩
   obtain⟨m,m1,m2⟩:=ih j hj hf
   exact⟨m,by omega,m2⟩
  ·exact⟨n+1,Nat.le_refl _,fun j hj=>Decidable.byContradiction fun q=>h0 ⟨j,by omega,q⟩,h⟩
set_option maxHeartbeats 2000000 in
theorem QX (a:Option Addr) (n c:Nat) (f:Nat->Nat) (w:World) (hT:MI w) (hn:n<=c) (hN:n<=68719476736) (hf:∀j,j < n->∃b off,a=some ⟨b,off,none⟩/\w.cell? ⟨b,off+j,none⟩=some (.int .u64 (f j:Int))/\f j < 18446744073709551616):
  Calls Tryz.prog 199 #[.slice a n c] w fun e w'=>(∃x y:Int,e= .returned (.tuple #[.int .i64 x, .int .i64 y])/\0<=x/\x<=1000000/\0<=y/\y<=2)/\Below w.heap.size w w':=by
 obtain⟨w2,hw2⟩:∃w2,((w.alloc (.cells #[.slice a n c] 24)).alloc (.cells #[.pointer (some ⟨w.heap.size,0,none⟩)] 303))=w2:=⟨_,rfl⟩
 have hB2:Below w.heap.size w w2:=by rw [<- hw2];exact((Below.refl _ _).alloc (Nat.le_refl _) _).alloc (by simp) _
 have hcell:∀{b off j},a=some ⟨b,off,none⟩->j < n->w2.cell? ⟨b,off+j,none⟩=some (.int .u64 (f j:Int))/\f j < 18446744073709551616:=fun {b off j} e hj=>by
  obtain⟨b',off',e',h1,h2⟩:=hf j hj
  rw [e] at e'
  cases e'
  exact⟨(hB2.cell (p:=⟨b,off+j,none⟩) (vR h1)).trans h1,h2⟩
 have ht:Calls Tryz.prog 201 #[.slice a n c] w2 fun e w'=>∃m,m<=n/\(m=0\/(fun j=>(f j:Int)) (m - 1)≠0)/\e= .returned (.slice a m c)/\w2=w':=by
  by_cases h0:n=0
  ·subst h0
   refine(Tz a c w2).mono ?_
   rintro e w' ⟨rfl,rfl⟩
   exact⟨0,Nat.le_refl _, .inl rfl,rfl,rfl⟩
  ·obtain⟨b,off,rfl,_⟩:=hf 0 (by omega)
   exact TC b off n c (fun j=>(f j:Int)) w2 hn hN fun j hj=>(hcell rfl hj).1
 have hO:=XN (w.heap.size+1) w.heap.size n c a (fun j=>(f j:Int)) w2 ht (by omega) (by rw [<- hw2];simp [go_sem]) (by rw [<- hw2];simp [go_sem]) (by rw [<- hw2];simp [go_sem]) hN
 have hs2:∀m,w2.setCell ⟨w.heap.size,0,none⟩ (.slice a m c)=((w.alloc (.cells #[.slice a m c] 24)).alloc (.cells #[.pointer (some ⟨w.heap.size,0,none⟩)] 303)):=fun m=>by rw [<- hw2];simp [go_sem]
 have HC:Hid (∀b off j:Nat,a=some ⟨b,off,none⟩->j < n->w.cell? ⟨b,off+j,none⟩=some (.int .u64 (f j:Int))/\f j < 18446744073709551616):=Lib.hid fun b off j e hj=>by
  obtain⟨b',off',e',h1,h2⟩:=hf j hj
  rw [e] at e'
  cases e'
  exact⟨h1,h2⟩
 have HA:Hid (0 < n->∃b off,a=some ⟨b,off,none⟩):=Lib.hid fun h0=>by
  obtain⟨b,off,e,_⟩:=hf 0 h0
  exact⟨b,off,e⟩
 have HT:=Lib.hid hT
 have HS:=Lib.hid hs2
 clear hcell hB2 hT hf ht hs2
 go_enter Tryz.func199,Tryz.ntmps199
 go_wp2_with fail
 refine hO.mono ?_
 rintro e w3 ⟨m,hm1,hm2,hm3,hw3⟩
 rw [HS.out m] at hw3
 have B3:Below w.heap.size w w3:=by rw [hw3];exact((Below.refl _ _).alloc (Nat.le_refl _) _).alloc (by simp) _
 have c1:w3.cell? ⟨w.heap.size,0,none⟩=some (.slice a m c):=by rw [hw3];simp [go_sem]
 have hT3:=HT.out.below B3
 have HT3:=Lib.hid hT3
 have HB3:=Lib.hid B3
 clear hO hw2 HS hw3 HT hT3 B3
 by_cases hm0:m=0
 ·subst hm0
  rcases hm3 with⟨_,rfl⟩ | rfl
  ·go_wp2_with fail
   go_ret2
   exact⟨⟨0,0,rfl,by decide,by decide,by decide,by decide⟩,HB3.out⟩
  ·go_wp2_with fail
   go_ret2
   exact⟨⟨0,2,rfl,by decide,by decide,by decide,by decide⟩,HB3.out⟩
 ·rcases hm3 with⟨h4,rfl⟩ | rfl
  ·have hne:(f (m - 1):Int)≠0:=hm2.resolve_left hm0
   obtain⟨q,hq1,hq2,hq3⟩:=V7 (fun j=>(f j:Int)) (m - 1) hne
   obtain⟨t,htq⟩:∃t,f q=t:=⟨_,rfl⟩
   obtain⟨b,off,rfl⟩:=HA.out (by omega)
   have ht64:t < 18446744073709551616:=by rw [<- htq];exact(HC.out b off q rfl (by omega)).2
   have ht0:t≠0:=fun e=>hq3 (by show(f q:Int)=0;rw [htq,e];rfl)
   obtain⟨z,hz⟩:∃z,Lib.ctz 64 t=z:=⟨_,rfl⟩
   have hz64:z < 64:=by rw [<- hz];exact(Lib.lowest_bit 64 t ht0 ht64).2
   have htz:∀w',MI w'->Calls Tryz.prog 265 #[.int .u64 (t:Int)] w' fun e w''=>e= .returned (.int .i64 (z:Int))/\w'=w'':=fun w' h=>by
    have:=Pd t ht64 w' h
    rwa [hz] at this
   have HQ:Hid (∀j,j < q->f j=0):=Lib.hid fun j hj=>by
    have:(f j:Int)=0:=hq2 j hj
    omega
   have Htq:=Lib.hid htq
   have Z4:((m:Int)==0)=false:=by simp;omega
   clear hq2 hq3 htq hne hz hm2
   go_wp2_with fail
   go_loopw [5] (fun v wr=>∃j:Nat,j<=q/\v= .int .i64 (j:Int)/\Hid (Below w3.heap.size w3 wr)) (fun v _=>q - (XM v).toNat)
   case atStart=>exact⟨0,Nat.zero_le _,rfl,Lib.hid (Below.refl _ _)⟩
   case round=>
    obtain⟨j,hj,rfl,hBr⟩:=hrel
    have c1':=(hBr.out.cell (p:=⟨w.heap.size,0,none⟩) (vR c1)).trans c1
    have hc0:=(HC.out b off j rfl (by omega)).1
    have hc1:=(HB3.out.cell (p:=⟨b,off+j,none⟩) (vR hc0)).trans hc0
    have hc:=(hBr.out.cell (p:=⟨b,off+j,none⟩) (vR hc1)).trans hc1
    have z5:(0:Int)<=(j:Int):=by omega
    have z6:(j:Int) < (m:Int):=by omega
    clear hc0 hc1
    by_cases hlt:j < q
    ·rw [HQ.out j hlt] at hc
     go_wp2_with fail
     go_roundw
     case rel=>exact⟨j+1,by omega,by go_num,hBr⟩
     case measure=>simp [XM];omega
    ·obtain rfl:q=j:=by omega
     rw [Htq.out] at hc
     have z7:((t:Int)==0)=false:=by simp;omega
     have HT4:=Lib.hid (HT3.out.below hBr.out)
     go_wp2_with fail
     refine(htz wr HT4.out).mono ?_
     rintro e w' ⟨rfl,rfl⟩
     go_wp2_with fail
     go_ret2
     exact⟨⟨64*(q:Int)+z,0,rfl,by omega,by omega,by decide,by decide⟩,V6 HB3.out hBr.out⟩
  ·go_wp2_with fail
   go_ret2
   exact⟨⟨0,2,rfl,by decide,by decide,by decide,by decide⟩,HB3.out⟩
end Go.Proofs.YtgledbghdhjgkaaGreatDoor
