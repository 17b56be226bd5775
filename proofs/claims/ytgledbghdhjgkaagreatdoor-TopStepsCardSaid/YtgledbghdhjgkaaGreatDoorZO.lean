/-
  A part of the proof that TopSteps answers true for every input that can be read as data.
-/
import Derived.Test.YtgledbghdhjgkaaGreatDoorZJ
set_option linter.unusedSimpArgs false
set_option linter.unusedVariables false
namespace Go.TM
open Go Go.RowKit Go.AM
section
variable {P:Program} {w0:World} {ro:Option Nat}
def aB:List TV->List TV->Prop
 | [],[]=>True
 | c::cs,t::ts=>(match c with
  | .bg=>True
  | c=>c=t)/\aB cs ts
 | _,_=>False
def R6:List TV->Bool
 | []=>true
 | .aac _ _::_=>false
 | _::l=>R6 l
theorem qy:∀{c:List TV},R6 c=true->∀v∈c,∀e o,v≠ .aac e o
 | [],_,v,hv=>by cases hv
 | a::c,h,v,hv=>by
  rcases List.mem_cons.1 hv with rfl | hv
  ·intro e o q;subst q;cases h
  ·refine qy (c:=c) ?_ v hv
   cases a<;>first | exact h | cases h
theorem aB.get:∀{c t:List TV},aB c t->∀{d:Nat} {v:TV},c[d]?=some v->∃u,t[d]?=some u/\(v= .bg\/v=u)
 | [],[],_,d,v,h=>by simp at h
 | [],_::_,h,d,v,_=>h.elim
 | _::_,[],h,d,v,_=>h.elim
 | c::cs,t::ts,h,0,v,hv=>by
  simp at hv;subst hv
  refine⟨t,rfl,?_⟩
  have h1:=h.1
  cases c<;>first | exact .inl rfl | exact .inr h1
 | c::cs,t::ts,h,d+1,v,hv=>aB.get h.2 (by simpa using hv)
theorem aB.len:∀{c t:List TV},aB c t->c.length=t.length
 | [],[],_=>rfl
 | [],_::_,h=>h.elim
 | _::_,[],h=>h.elim
 | c::cs,t::ts,h=>by simp [aB.len h.2]
theorem aB.slot {c t:List TV} (h:aB c t) {d:Nat} {v:TV} (hv:c[d]?=some v) (hj:v≠ .bg):Go.TM.slot t d=v:=by
 obtain⟨u,hu,q⟩:=h.get hv
 rcases q with q | q
 ·exact absurd q hj
 ·subst q;exact vM hu
theorem aB.wk {c t:List TV} (h:aB c t) (hc:R6 c=true):Ja t c:=by
 refine⟨h.len,fun d v hv=>?_⟩
 obtain⟨u,hu,q⟩:=h.get hv
 refine⟨u,hu,?_⟩
 rcases q with rfl | rfl
 ·exact Wk.bg _
 ·exact Wk.refl (qy hc _ (List.mem_of_getElem? hv))
theorem aB.jo {c t:List TV} (h:aB c t) (hc:R6 c=true):Fs P w0 t c:=(h.wk hc).jo
theorem aB.set:∀{c t:List TV} {d:Nat} {v:TV},aB c t->aB (c.set d v) (t.set d v)
 | [],[],d,v,h=>by simpa using h
 | [],_::_,d,v,h=>h.elim
 | _::_,[],d,v,h=>h.elim
 | c::cs,t::ts,0,v,h=>⟨by cases v<;>first | trivial | rfl,h.2⟩
 | c::cs,t::ts,d+1,v,h=>⟨h.1,aB.set h.2⟩
theorem aB.gW:∀{c c' t:List TV},aB c t->aB c' c->aB c' t
 | [],[],[],_,_=>trivial
 | [],_::_,_,_,k=>k.elim
 | _::_,[],_,_,k=>k.elim
 | [],_,_::_,h,_=>h.elim
 | _::_,_,[],h,_=>h.elim
 | c::cs,c'::cs',t::ts,h,k=>⟨by
   have h1:=h.1
   have k1:=k.1
   cases c'<;>first | trivial | (simp only at k1 ⊢;subst k1;exact h1),aB.gW h.2 k.2⟩
noncomputable def forgets:List TV->List TV->Prop:=aB
theorem aB.forget {c c' t:List TV} (h:aB c t) (e:forgets c' c=True):aB c' t:=h.gW (by unfold forgets at e;rw [e];trivial)
theorem iL.jo {o:Oper} {t t':List TV} {g:G} {K:List TV->G->Prop} (h:Fs P w0 t t') (k:iL P w0 ro o t' g K):iL P w0 ro o t g K:= .of fun σ a w m next Q hn=>by
 obtain⟨σ1,s1⟩:=h σ g a.tmps w m
 exact k.get σ1 a w s1.rel next Q fun v g' σ' w' x hv hs=>hn v g' σ' w' x hv (s1.trans hs)
theorem aQ.cons {ops:List Oper} {Q:List TV->G->Prop} {o:Oper} {l:List Oper} {t:List TV} {g:G} (ho:o.guard=none) (h:iL P w0 ro o t g fun t g=>aQ P w0 ro ops Q l t g):aQ P w0 ro ops Q (o::l) t g:=by
 unfold aQ
 rw [tJ ho];exact h
theorem aQ.uncons {ops:List Oper} {Q:List TV->G->Prop} {o:Oper} {l:List Oper} {t:List TV} {g:G} (ho:o.guard=none) (h:aQ P w0 ro ops Q (o::l) t g):iL P w0 ro o t g fun t g=>aQ P w0 ro ops Q l t g:=by
 unfold aQ at h
 rw [tJ ho] at h;exact h
theorem aQ.jo {ops:List Oper} {Q:List TV->G->Prop} {o:Oper} {l:List Oper} {t t':List TV} {g:G} (ho:o.guard=none) (hs:Fs P w0 t t') (h:aQ P w0 ro ops Q (o::l) t' g):aQ P w0 ro ops Q (o::l) t g:=
 .cons ho (iL.jo hs (h.uncons ho))
theorem aQ.append {ops:List Oper} {Q:List TV->G->Prop} {l2:List Oper}:∀{l1:List Oper} {t:List TV} {g:G},aQ P w0 ro ops (fun t g=>aQ P w0 ro ops Q l2 t g) l1 t g->aQ P w0 ro ops Q (l1++l2) t g
 | [],t,g,h=>h
 | o::l1,t,g,h=>by
  rw [List.cons_append]
  unfold aQ at h ⊢
  split at h
  ·exact h.mono fun t g q=>aQ.append q
  ·exact aQ.append h
  ·exact⟨fun q=>(h.1 q).mono fun t g q=>aQ.append q,fun q=>aQ.append (h.2 q)⟩
  ·exact h.elim
variable {X:Nat->Option XK} {Y:iM} {SP:Spec}
theorem aQ.jY {S:Nat} (hX:∀f x,X f=some x->C8 P f x) (hY:ky P w0 Y) (hSP:r9 P w0 SP) {ops:List Oper} {K:List TV->Prop} {Q:List TV->G->Prop} {l:List Oper} {t:List TV} {g:G}
  (h:qJ X Y SP (fun _=>none) S ops K l t) (hq:∀t',K t'->Q t' g):aQ P w0 ro ops Q l t g:=
 aQ.mono (fun t' g' ⟨q1,_,q3⟩=>by subst q3;exact hq t' q1) (gm hX hY hSP (o9.refl S t) h)
theorem TA.jY {S:Nat} (hX:∀f x,X f=some x->C8 P f x) (hY:ky P w0 Y) (hSP:r9 P w0 SP) {ops:Array Oper} {id:Nat} {K:List TV->Prop} {Q:Exit->St->Prop} {t:List TV} {d:List Nat} {g:G}
  (h:qJ X Y SP (fun _=>none) S ops.toList K ops.toList t) (hq:∀t',K t'->Q .normal ⟨t',d,g⟩):TA P w0 ro (.region id ops false) Q ⟨t,d,g⟩:=
 TA.region (aQ.jY hX hY hSP h hq)
def qz (P:Program) (w0:World) (l:Nat) (args:List TV) (g:G) (K:TV->G->Prop):Prop:=
 ∃r,g l=some (.loop r)/\args.length=r.params.size/\(∀{d:Nat} {v:TV},r.tmps[d]?=some v->v.plain=true)/\
  TA P w0 (some l) r.assign (fun e s1=>e= .normal/\∃r1,s1.g l=some (.loop r1)/\r1.state= .ready/\TA P w0 (some l) r1.body (WK l K) ⟨s1.t,s1.d,G.put s1.g l (.loop {r1 with state:= .busy})⟩/\r1.body=r.body) ⟨gp r.params.toList args r.tmps,[],g⟩
theorem qz.op {l:Nat} {o:Oper} {t:List TV} {s:G} {K:List TV->G->Prop} {g:Operand} {args:Array Operand} {ts:Array TypeId} (ho:o.op= .call {callee:= .value g,args,argTypes:=ts})
  (hg:ev t g= .y l) (h:qz P w0 l (args.toList.map (dw t)) s fun v g=>K (eG t o.dst v) g):iL P w0 ro o t s K:=by
 obtain⟨r,h1,h2,h3,h4⟩:=h
 refine iL.yield ho hg h1 (by simpa using h2.symm) h3 (h4.mono ?_)
 rintro e s1 ⟨he,r1,q1,q2,q3,q4⟩
 exact⟨he,r1,q1,q2,by rw [<- q4];exact q3⟩
theorem G.Xy {g:G} {l:Nat} {a b:I6}:G.put (G.put g l a) l b=G.put g l b:=by
 funext k;unfold G.put;split<;>rfl
theorem G.Bu {g:G} {l:Nat} {a:I6} (h:g l=some a):G.put g l a=g:=by
 funext k;unfold G.put;split
 ·rename_i e;subst e;exact h.symm
 ·rfl
theorem Ac.yields {l:Nat} {r:wQ} {g:G} {J:Exit->Prop} {args:List TV} (hJ:∀e,J e->∃j,AM.Exit.jump e=some j) (hl:g l=some (.loop r)) (hs:r.state= .ready) (hp:r.pending=none) (hpl:∀{d:Nat} {v:TV},r.tmps[d]?=some v->v.plain=true)
  (h:Ac P w0 l r g J args):qz P w0 l args g fun v g'=>(v= .b (some true)/\g'=g)\/(v= .b (some false)/\nG l r g J v g'):=by
 obtain⟨h1,h2⟩:=h
 refine⟨r,hl,h1,hpl,h2.mono ?_⟩
 rintro e ⟨t1,d1,g1⟩ ⟨rfl,hg1,h3⟩
 have hg1:g1=g:=hg1
 subst hg1
 refine⟨rfl,r,hl,hs,h3.mono ?_,rfl⟩
 rintro e ⟨t2,d2,g2⟩ ⟨he,hg2⟩
 have hg2:g2=_:=hg2
 subst hg2
 obtain⟨j,hj⟩:=hJ e he
 refine⟨j,_,hj,by simp [G.put];rfl,?_⟩
 rw [G.Xy]
 cases j with
 | none=>
  refine .inl ⟨rfl,?_⟩
  obtain⟨st,pd,tms,prs,asn,bdy,dfs⟩:=r
  simp only at hs hp
  subst hs;subst hp
  exact G.Bu hl
 | some c=>exact .inr ⟨rfl, .done,some c,by simp,rfl,e,he,hj⟩
end
end Go.TM
namespace Go.Proofs.YtgledbghdhjgkaaGreatDoor
open Go Go.TM
set_option maxRecDepth 100000
abbrev VT (vz vn vr vc va vd vo:Int):List TV:=[.np vz [.s [.f] (some vn)], .i .i64 (some vr), .i .i64 (some vc), .i .i64 (some va), .i .i64 (some vd), .i .i64 (some vo)]
abbrev J_:TV:= .bg
theorem gX {w0:World} {r:Nat} (ht:ag w0 r):r9 Tryz.prog w0 (Qc tab r):=Fu fun f l F h1 h2=>ht f l F h1 h2
section
variable (l:Nat) (vz vn vr vc va vd vo:Int)
def cZ:List TV:=[.y l, .p (VT vz vn vr vc va vd vo)]++List.replicate 25 .un
def cA (i:Int):List TV:=[(.y l),(.p (VT vz vn vr vc va vd vo)),J_,J_,J_,J_,(.i .i64 (some vr)),(.i .i64 (some i)),J_,J_,J_,J_,J_,J_,J_,J_,J_,J_,J_,J_,J_,J_,J_,J_,J_,J_,J_]
def cB (i j:Int):List TV:=[(.y l),(.p (VT vz vn vr vc va vd vo)),J_,(.i .i64 (some i)),J_,J_,(.i .i64 (some vr)),(.i .i64 (some i)),J_,J_,J_,(.i .i64 (some vc)),(.i .i64 (some j)),J_,J_,J_,J_,J_,J_,J_,J_,J_,J_,J_,J_,J_,J_]
def cC (i j:Int):List TV:=[(.y l),(.p (VT vz vn vr vc va vd vo)),J_,(.i .i64 (some i)),(.i .i64 (some j)),J_,(.i .i64 (some vr)),(.i .i64 (some i)),J_,J_,J_,(.i .i64 (some vc)),(.i .i64 (some j)),J_,J_,J_,J_,J_,J_,J_,J_,J_,J_,J_,J_,J_,J_]
def cD (i j:Int):List TV:=[(.y l),(.p (VT vz vn vr vc va vd vo)),J_,(.i .i64 (some i)),(.i .i64 (some j)),J_,(.i .i64 (some vr)),(.i .i64 (some i)),J_,J_,J_,(.i .i64 (some vc)),(.i .i64 (some j)),J_,J_,(.y l),J_,J_,(.agg [.i .i64 (some i), .i .i64 (some j)]),J_,J_,J_, .f,J_,J_,J_,J_]
def cE (i j:Int) (b:Bool):List TV:=(cC l vz vn vr vc va vd vo i j).set 23 (.b (some b))
def cF (i j:Int) (b:Bool):List TV:=(cC l vz vn vr vc va vd vo i j).set 24 (.b (some b))
end
theorem p0_ (l:Nat) (vz vn vr vc va vd vo i j:Int):TV.y l=TV.y l/\TV.p (VT vz vn vr vc va vd vo)=TV.p (VT vz vn vr vc va vd vo)/\True/\True/\True/\True/\TV.i IntKind.i64 (some vr)=TV.i IntKind.i64 (some vr)/\TV.i IntKind.i64 (some 0)=TV.i IntKind.i64 (some 0)/\True/\True/\True/\True/\True/\True/\True/\True/\True/\True/\True/\True/\True/\True/\True/\True/\True/\True/\True/\True:=by
 repeat' (first | intro _ | refine And.intro ?_ ?_)
 all_goals first | trivial | rfl | omega
theorem p1_ (l:Nat) (vz vn vr vc va vd vo i j:Int):TV.y l=TV.y l/\TV.p (VT vz vn vr vc va vd vo)=TV.p (VT vz vn vr vc va vd vo)/\True/\True/\True/\True/\TV.i IntKind.i64 (some vr)=TV.i IntKind.i64 (some vr)/\TV.i IntKind.i64 (some i)=TV.i IntKind.i64 (some i)/\TV.bp (i < vr)=TV.bp (i < vr)/\True/\True/\True/\True/\True/\True/\True/\True/\True/\True/\True/\True/\True/\True/\True/\True/\True/\True/\True:=by
 repeat' (first | intro _ | refine And.intro ?_ ?_)
 all_goals first | trivial | rfl | omega
theorem p2_ (l:Nat) (vz vn vr vc va vd vo i j:Int):TV.y l=TV.y l/\TV.p (VT vz vn vr vc va vd vo)=TV.p (VT vz vn vr vc va vd vo)/\True/\TV.i IntKind.i64 (some i)=TV.i IntKind.i64 (some i)/\True/\True/\TV.i IntKind.i64 (some vr)=TV.i IntKind.i64 (some vr)/\TV.i IntKind.i64 (some i)=TV.i IntKind.i64 (some i)/\True/\True/\True/\True/\True/\True/\True/\True/\True/\True/\True/\True/\True/\True/\True/\True/\True/\True/\True/\True:=by
 repeat' (first | intro _ | refine And.intro ?_ ?_)
 all_goals first | trivial | rfl | omega
theorem p3_ (l:Nat) (vz vn vr vc va vd vo i j:Int):TV.y l=TV.y l/\TV.p (VT vz vn vr vc va vd vo)=TV.p (VT vz vn vr vc va vd vo)/\True/\TV.i IntKind.i64 (some i)=TV.i IntKind.i64 (some i)/\True/\True/\TV.i IntKind.i64 (some vr)=TV.i IntKind.i64 (some vr)/\TV.i IntKind.i64 (some i)=TV.i IntKind.i64 (some i)/\True/\True/\True/\TV.i IntKind.i64 (some vc)=TV.i IntKind.i64 (some vc)/\TV.i IntKind.i64 (some 0)=TV.i IntKind.i64 (some 0)/\True/\True/\True/\True/\True/\True/\True/\True/\True/\True/\True/\True/\True/\True/\True:=by
 repeat' (first | intro _ | refine And.intro ?_ ?_)
 all_goals first | trivial | rfl | omega
theorem p4_ (l:Nat) (vz vn vr vc va vd vo i j:Int):TV.y l=TV.y l/\TV.p (VT vz vn vr vc va vd vo)=TV.p (VT vz vn vr vc va vd vo)/\True/\TV.i IntKind.i64 (some i)=TV.i IntKind.i64 (some i)/\True/\True/\TV.i IntKind.i64 (some vr)=TV.i IntKind.i64 (some vr)/\TV.i IntKind.i64 (some i)=TV.i IntKind.i64 (some i)/\True/\True/\True/\TV.i IntKind.i64 (some vc)=TV.i IntKind.i64 (some vc)/\TV.i IntKind.i64 (some j)=TV.i IntKind.i64 (some j)/\TV.bp (j < vc)=TV.bp (j < vc)/\True/\True/\True/\True/\True/\True/\True/\True/\True/\True/\True/\True/\True/\True:=by
 repeat' (first | intro _ | refine And.intro ?_ ?_)
 all_goals first | trivial | rfl | omega
theorem p5_ (l:Nat) (vz vn vr vc va vd vo i j:Int):TV.y l=TV.y l/\TV.p (VT vz vn vr vc va vd vo)=TV.p (VT vz vn vr vc va vd vo)/\True/\TV.i IntKind.i64 (some i)=TV.i IntKind.i64 (some i)/\TV.i IntKind.i64 (some j)=TV.i IntKind.i64 (some j)/\True/\TV.i IntKind.i64 (some vr)=TV.i IntKind.i64 (some vr)/\TV.i IntKind.i64 (some i)=TV.i IntKind.i64 (some i)/\True/\True/\True/\TV.i IntKind.i64 (some vc)=TV.i IntKind.i64 (some vc)/\TV.i IntKind.i64 (some j)=TV.i IntKind.i64 (some j)/\True/\True/\True/\True/\True/\True/\True/\True/\True/\True/\True/\True/\True/\True/\True:=by
 repeat' (first | intro _ | refine And.intro ?_ ?_)
 all_goals first | trivial | rfl | omega
theorem p6_ (l:Nat) (vz vn vr vc va vd vo i j:Int) (hp:0<=vz/\vz<=1/\0<=vr/\vr<=512/\0<=vc/\vc<=512/\0<=va/\va<=1000000000000/\0<=vd/\vd<=1000000/\0<=vo/\vo<=1000000/\vn<=1000000000/\(1<=vr->1<=vc->vz=1/\va+(vr - 1)*vd+(vc - 1)*vo < vn)):(0<=vz/\vz<=1/\0<=vr/\vr<=512/\0<=vc/\vc<=512/\0<=va/\va<=1000000000000/\0<=vd/\vd<=1000000/\0<=vo/\vo<=1000000/\vn<=1000000000/\(1<=vr->1<=vc->vz=1/\va+(vr - 1)*vd+(vc - 1)*vo < vn))/\(True->TV.y l=TV.y l/\TV.p (VT vz vn vr vc va vd vo)=TV.p (VT vz vn vr vc va vd vo)/\True/\TV.i IntKind.i64 (some i)=TV.i IntKind.i64 (some i)/\TV.i IntKind.i64 (some j)=TV.i IntKind.i64 (some j)/\True/\TV.i IntKind.i64 (some vr)=TV.i IntKind.i64 (some vr)/\TV.i IntKind.i64 (some i)=TV.i IntKind.i64 (some i)/\True/\True/\True/\TV.i IntKind.i64 (some vc)=TV.i IntKind.i64 (some vc)/\TV.i IntKind.i64 (some j)=TV.i IntKind.i64 (some j)/\True/\True/\TV.y l=TV.y l/\True/\True/\TV.agg [TV.i IntKind.i64 (some i),TV.i IntKind.i64 (some j)]=TV.agg [TV.i IntKind.i64 (some i),TV.i IntKind.i64 (some j)]/\True/\True/\True/\TV.f=TV.f/\True/\True/\True/\True/\True)/\True:=by
 repeat' (first | intro _ | refine And.intro ?_ ?_)
 all_goals first | trivial | rfl | omega
theorem p6t_ (l:Nat) (vz vn vr vc va vd vo i j:Int):TV.y l=TV.y l/\TV.p (VT vz vn vr vc va vd vo)=TV.p (VT vz vn vr vc va vd vo)/\True/\TV.i IntKind.i64 (some i)=TV.i IntKind.i64 (some i)/\TV.i IntKind.i64 (some j)=TV.i IntKind.i64 (some j)/\True/\TV.i IntKind.i64 (some vr)=TV.i IntKind.i64 (some vr)/\TV.i IntKind.i64 (some i)=TV.i IntKind.i64 (some i)/\True/\True/\True/\TV.i IntKind.i64 (some vc)=TV.i IntKind.i64 (some vc)/\TV.i IntKind.i64 (some j)=TV.i IntKind.i64 (some j)/\True/\True/\True/\True/\True/\True/\True/\True/\True/\True/\True/\TV.b (some false)=TV.b (some !true)/\True/\True/\True:=by
 repeat' (first | intro _ | refine And.intro ?_ ?_)
 all_goals first | trivial | rfl | omega
theorem p6f_ (l:Nat) (vz vn vr vc va vd vo i j:Int):TV.y l=TV.y l/\TV.p (VT vz vn vr vc va vd vo)=TV.p (VT vz vn vr vc va vd vo)/\True/\TV.i IntKind.i64 (some i)=TV.i IntKind.i64 (some i)/\TV.i IntKind.i64 (some j)=TV.i IntKind.i64 (some j)/\True/\TV.i IntKind.i64 (some vr)=TV.i IntKind.i64 (some vr)/\TV.i IntKind.i64 (some i)=TV.i IntKind.i64 (some i)/\True/\True/\True/\TV.i IntKind.i64 (some vc)=TV.i IntKind.i64 (some vc)/\TV.i IntKind.i64 (some j)=TV.i IntKind.i64 (some j)/\True/\True/\True/\True/\True/\True/\True/\True/\True/\True/\True/\TV.b (some true)=TV.b (some !false)/\True/\True/\True:=by
 repeat' (first | intro _ | refine And.intro ?_ ?_)
 all_goals first | trivial | rfl | omega
theorem p7_ (l:Nat) (vz vn vr vc va vd vo i j:Int) (h0:0<=j) (h1:j < 600):-9223372036854775808<=j+1/\j+(1:Int)<=9223372036854775807/\TV.y l=TV.y l/\TV.p (VT vz vn vr vc va vd vo)=TV.p (VT vz vn vr vc va vd vo)/\True/\TV.i IntKind.i64 (some i)=TV.i IntKind.i64 (some i)/\True/\True/\TV.i IntKind.i64 (some vr)=TV.i IntKind.i64 (some vr)/\TV.i IntKind.i64 (some i)=TV.i IntKind.i64 (some i)/\True/\True/\True/\TV.i IntKind.i64 (some vc)=TV.i IntKind.i64 (some vc)/\TV.i IntKind.i64 (some (j+1))=TV.i IntKind.i64 (some (j+1))/\True/\True/\True/\True/\True/\True/\True/\True/\True/\True/\True/\True/\True/\True/\True:=by
 repeat' (first | intro _ | refine And.intro ?_ ?_)
 all_goals first | trivial | rfl | omega
theorem p8_ (l:Nat) (vz vn vr vc va vd vo i j:Int) (h0:0<=i) (h1:i < 600):-9223372036854775808<=i+1/\i+(1:Int)<=9223372036854775807/\TV.y l=TV.y l/\TV.p (VT vz vn vr vc va vd vo)=TV.p (VT vz vn vr vc va vd vo)/\True/\True/\True/\True/\TV.i IntKind.i64 (some vr)=TV.i IntKind.i64 (some vr)/\TV.i IntKind.i64 (some (i+1))=TV.i IntKind.i64 (some (i+1))/\True/\True/\True/\True/\True/\True/\True/\True/\True/\True/\True/\True/\True/\True/\True/\True/\True/\True/\True/\True:=by
 repeat' (first | intro _ | refine And.intro ?_ ?_)
 all_goals first | trivial | rfl | omega
theorem II {w0:World} (ht:ag w0 173) (l:Nat) (vz vn vr vc va vd vo:Int) (hp:0<=vz/\vz<=1/\0<=vr/\vr<=512/\0<=vc/\vc<=512/\0<=va/\va<=1000000000000/\0<=vd/\vd<=1000000/\0<=vo/\vo<=1000000/\vn<=1000000000/\(1<=vr->1<=vc->vz=1/\va+(vr - 1)*vd+(vc - 1)*vo < vn)) {Iv:Int->G->Prop} {D:G->Prop}
  (hy:∀i j g,0<=i->i < vr->0<=j->j < vc->Iv (i*vc+j) g->qz Tryz.prog w0 l [.agg [.i .i64 (some i), .i .i64 (some j)], .f] g (fun v g'=>(v= .b (some true)/\Iv (i*vc+j+1) g')\/(v= .b (some false)/\D g')))
  {g:G} (h0:Iv 0 g):av Tryz.prog w0 303 [.y l, .p (VT vz vn vr vc va vd vo)] g (fun _ g'=>Iv (vr*vc) g'\/D g'):=by
 obtain⟨hz0,hz1,hr0,hr1,hc0,hc1,hrest⟩:=id hp
 have fin:∀{e:Exit} {t:List TV} {g':G},(e= .normal\/e= .ret)->(Iv (vr*vc) g'\/D g')->WW Y7 Tryz.f303 (fun _ g'=>Iv (vr*vc) g'\/D g') e ⟨t,[],g'⟩:=fun he hq=>⟨he,List.nodup_nil,fun r hr=>(by cases hr),[],rfl,hq⟩
 refine av.qF bI (fn:=Tryz.f303) (by kernel_rfl) rfl rfl ?_
 refine TA.seq ?_
 refine TA.jY (S:=2 ^ 27 - 1) (K:=aB (cA l vz vn vr vc va vd vo 0)) bG bI (gX ht) (Eq.mpr (by kernel_rfl) (p0_ l vz vn vr vc va vd vo 0 0)) fun t1 h1=>?_
 refine TA.block (TA.loop (fun n s=>∃i:Int,0<=i/\i<=vr/\(n:Int)=vr - i/\s.d=[]/\aB (cA l vz vn vr vc va vd vo i) s.t/\Iv (i*vc) s.g) (n0:=vr.toNat) ⟨0,by omega,hr0,by omega,rfl,h1,by rw [Int.zero_mul];exact h0⟩ ?_)
 rintro n ⟨t,d,g⟩ ⟨i,hi0,hi1,hn,hd,hl,hI⟩
 have hd:d=[]:=hd
 subst hd
 refine TA.jo (aB.jo hl rfl) ?_
 refine TA.seq (TA.jY (S:=2 ^ 27 - 1) (K:=aB ((cA l vz vn vr vc va vd vo i).set 8 (.bp (i < vr)))) bG bI (gX ht) (Eq.mpr (by kernel_rfl) (p1_ l vz vn vr vc va vd vo i 0)) fun t2 h2=>?_)
 have e8:ev t2 (.tmp 8)= .bp (i < vr):=h2.slot (d:=8) rfl (by simp)
 refine TA.seq (TA.cond (by rw [e8];rfl) (fun q=>?_) (fun q=>?_))
 rotate_left
 ·rw [e8] at q
  have q:¬i < vr:=q
  refine TA.exit (fin (.inl rfl) (.inl ?_))
  have:i=vr:=by omega
  subst this;exact hI
 rw [e8] at q
 have q:i < vr:=q
 refine TA.skip (TA.seq (TA.block (TA.seq (TA.jo (aB.jo (c:=cA l vz vn vr vc va vd vo i) ?_ rfl) (TA.jY (S:=2 ^ 27 - 1) (K:=aB ((cA l vz vn vr vc va vd vo i).set 3 (.i .i64 (some i)))) bG bI (gX ht) (Eq.mpr (by kernel_rfl) (p2_ l vz vn vr vc va vd vo i 0)) fun t3 h3=>?_)))))
 ·exact h2.gW (by simp [aB,cA,cB,cC,cD,cE,cF])
 refine TA.seq (TA.jo (aB.jo h3 rfl) (TA.jY (S:=2 ^ 27 - 1) (K:=aB (cB l vz vn vr vc va vd vo i 0)) bG bI (gX ht) (Eq.mpr (by kernel_rfl) (p3_ l vz vn vr vc va vd vo i 0)) fun t4 h4=>?_))
 refine TA.block (TA.loop (fun m s=>∃j:Int,0<=j/\j<=vc/\(m:Int)=vc - j/\s.d=[]/\aB (cB l vz vn vr vc va vd vo i j) s.t/\Iv (i*vc+j) s.g) (n0:=vc.toNat) ⟨0,by omega,hc0,by omega,rfl,h4,by rw [Int.add_zero];exact hI⟩ ?_)
 rintro m ⟨t5,d5,g5⟩ ⟨j,hj0,hj1,hm,hd5,hl5,hI5⟩
 have hd5:d5=[]:=hd5
 subst hd5
 refine TA.jo (aB.jo hl5 rfl) ?_
 refine TA.seq (TA.jY (S:=2 ^ 27 - 1) (K:=aB ((cB l vz vn vr vc va vd vo i j).set 13 (.bp (j < vc)))) bG bI (gX ht) (Eq.mpr (by kernel_rfl) (p4_ l vz vn vr vc va vd vo i j)) fun t6 h6=>?_)
 have e13:ev t6 (.tmp 13)= .bp (j < vc):=h6.slot (d:=13) rfl (by simp)
 refine TA.seq (TA.cond (by rw [e13];rfl) (fun q2=>?_) (fun q2=>?_))
 rotate_left
 ·rw [e13] at q2
  have q2:¬j < vc:=q2
  have hj:j=vc:=by omega
  have hI5:Iv (i*vc+vc) g5:=hj▸hI5
  refine TA.exit ?_
  refine TA.jo (aB.jo (c:=cA l vz vn vr vc va vd vo i) (h6.gW (by simp [aB,cA,cB,cC,cD,cE,cF])) rfl) (TA.jY (S:=2 ^ 27 - 1) (K:=aB (cA l vz vn vr vc va vd vo (i+1))) bG bI (gX ht) (Eq.mpr (by kernel_rfl) (p8_ l vz vn vr vc va vd vo i 0 hi0 (by omega))) fun t7 h7=>?_)
  exact⟨n - 1,by omega,i+1,by omega,by omega,by omega,rfl,h7,by rw [Int.add_mul,Int.one_mul];exact hI5⟩
 rw [e13] at q2
 have q2:j < vc:=q2
 refine TA.skip (TA.seq (TA.block (TA.seq (TA.jo (aB.jo (c:=cB l vz vn vr vc va vd vo i j) ?_ rfl) (TA.jY (S:=2 ^ 27 - 1) (K:=aB (cC l vz vn vr vc va vd vo i j)) bG bI (gX ht) (Eq.mpr (by kernel_rfl) (p5_ l vz vn vr vc va vd vo i j)) fun t7 h7=>?_)))))
 ·exact h6.gW (by simp [aB,cA,cB,cC,cD,cE,cF])
 refine TA.seq (TA.jo (aB.jo h7 rfl) (TA.region ?_))
 refine aQ.append (l1:=[_,_,_,_,_,_,_,_]) (l2:=[_,_]) ?_
 refine aQ.jY (S:=2 ^ 27 - 1) (K:=aB (cD l vz vn vr vc va vd vo i j)) bG bI (gX ht) (Eq.mpr (by kernel_rfl) (p6_ l vz vn vr vc va vd vo i j hp)) fun t8 h8=>?_
 refine aQ.cons rfl (qz.op rfl (h8.slot (d:=15) rfl (by simp)) ?_)
 have ea:List.map (dw t8) (Array.toList #[Operand.tmp 18,Operand.tmp 22])=[.agg [.i .i64 (some i), .i .i64 (some j)], .f]:=by
  show [(slot t8 18).zL,(slot t8 22).zL]=_
  rw [h8.slot (d:=18) rfl (by simp),h8.slot (d:=22) rfl (by simp)]
  rfl
 rw [ea]
 obtain⟨r,y1,y2,y3,y4⟩:=hy i j g5 hi0 q hj0 q2 hI5
 refine⟨r,y1,y2,y3,y4.mono fun e s1 hq=>?_⟩
 obtain⟨ye,r1,yl,ys,yb,yr⟩:=hq
 refine⟨ye,r1,yl,ys,yb.mono fun e2 s2 hq2=>?_,yr⟩
 obtain⟨jj,r2,yj,yg,yk⟩:=hq2
 refine⟨jj,r2,yj,yg,?_⟩
 rcases yk with⟨yv,yI⟩ | ⟨yv,yD⟩
 ·rw [yv]
  refine aQ.jo rfl (aB.jo (c:=cE l vz vn vr vc va vd vo i j true) (h8.set.gW (by simp [aB,cA,cB,cC,cD,cE,cF])) rfl) (aQ.jY (S:=2 ^ 27 - 1) (K:=aB (cF l vz vn vr vc va vd vo i j false)) bG bI (gX ht) (Eq.mpr (by kernel_rfl) (p6t_ l vz vn vr vc va vd vo i j)) fun t9 h9=>?_)
  have e24:ev t9 (.tmp 24)= .b (some false):=h9.slot (d:=24) rfl (by simp)
  refine TA.cond (by rw [e24];rfl) (fun q3=>?_) (fun q3=>?_)
  ·rw [e24] at q3;exact absurd q3 (by simp [TV.holds])
  refine TA.skip ?_
  refine TA.jo (aB.jo (c:=cB l vz vn vr vc va vd vo i j) (h9.gW (by simp [aB,cA,cB,cC,cD,cE,cF])) rfl) (TA.jY (S:=2 ^ 27 - 1) (K:=aB (cB l vz vn vr vc va vd vo i (j+1))) bG bI (gX ht) (Eq.mpr (by kernel_rfl) (p7_ l vz vn vr vc va vd vo i j hj0 (by omega))) fun t10 h10=>?_)
  exact⟨m - 1,by omega,j+1,by omega,by omega,by omega,rfl,h10,by rw [<- Int.add_assoc];exact yI⟩
 ·rw [yv]
  refine aQ.jo rfl (aB.jo (c:=cE l vz vn vr vc va vd vo i j false) (h8.set.gW (by simp [aB,cA,cB,cC,cD,cE,cF])) rfl) (aQ.jY (S:=2 ^ 27 - 1) (K:=aB (cF l vz vn vr vc va vd vo i j true)) bG bI (gX ht) (Eq.mpr (by kernel_rfl) (p6f_ l vz vn vr vc va vd vo i j)) fun t9 h9=>?_)
  have e24:ev t9 (.tmp 24)= .b (some true):=h9.slot (d:=24) rfl (by simp)
  refine TA.cond (by rw [e24];rfl) (fun q3=>?_) (fun q3=>?_)
  rotate_left
  ·rw [e24] at q3;exact absurd q3 (by simp [TV.holds])
  exact TA.ret (fin (.inr rfl) (.inr yD))
theorem VG {w0:World} (ht:ag w0 173) {cs:List TV} {K:List TV->Prop} (h:VD cs K):AM.Goes Tryz.prog 303/\∀l g r J,(∀e,J e->∃j,AM.Exit.jump e=some j)->g l=some (.loop r)->r.state= .ready->r.pending=none->(∀{d:Nat} {v:TV},r.tmps[d]?=some v->v.plain=true)->
  (∀args,K args->Ac Tryz.prog w0 l r g J args)->av Tryz.prog w0 303 (.y l::cs) g (nG l r g J):=by
 unfold VD at h
 split at h
 ·rename_i z n r c a d o
  obtain⟨hp,hk⟩:=h
  refine⟨aO _ Tryz.f303 _ (by kernel_rfl) rfl,fun l g rr J hJ hl hs hpd hpl QI=>?_⟩
  refine(II (Iv:=fun _ g'=>g'=g) (D:=fun g'=>nG l rr g J (.b none) g') ht l z n r c a d o hp (fun i j g' hi0 hi1 hj0 hj1 hg=>?_) rfl).mono ?_
  ·subst hg
   obtain⟨q,y1,y2,y3,y4⟩:=(QI _ (hk i j hi0 hi1 hj0 hj1)).yields hJ hl hs hpd hpl
   exact⟨q,y1,y2,y3,y4⟩
  ·rintro v g' (rfl | hd)
   ·refine⟨.ready,none,by simp,?_,trivial⟩
    obtain⟨st,pd,tms,prs,asn,bdy,dfs⟩:=rr
    simp only at hs hpd
    subst hs;subst hpd
    exact(G.Bu hl).symm
   ·exact hd
 ·exact h.elim
end Go.Proofs.YtgledbghdhjgkaaGreatDoor
namespace Go.TM
open Go Go.RowKit Go.AM
section
variable {P:Program} {w0:World} {ro:Option Nat}
abbrev ET (r:Nat):TV:= .val (.pointer (some ⟨r,0,none⟩))
theorem jZ {t:List TV} {d:Nat} {v:TV} (hv:v.plain=true) {e:Nat} {u:TV} (h:(t.set d v)[e]?=some u) (hu:u.plain=false):e≠d/\t[e]?=some u:=by
 rcases aK h with⟨_,q⟩ | q
 ·subst q;rw [hv] at hu;cases hu
 ·exact q
theorem Rel.R7 {σ:TE} {g:G} {t:List TV} {tm:Array Value} {w:World} (h:Rel P w0 σ g t tm w) {d r:Nat} {cs:List TV} (hd:t[d]?=some (.ow cs)) (hr:tm[d]?=some (.pointer (some ⟨r,0,none⟩))):
  g r=none/\σ r=none/\Rel P w0 σ (G.put g r (.own cs)) (t.set d (ET r)) tm w:=by
 obtain⟨r',h1,h2,h3,h4,C,e,h5,h6⟩:=h.own.ow d cs hd
 rw [hr] at h1
 have hrr:r'=r:=by injection h1 with h1;injection h1 with h1;injection h1 with h1;injection h1 with h1;exact h1.symm
 subst hrr
 have Oy:bS tm d=r':=bP hr
 refine⟨h3,h2,ai.of ?_ fun i a v ha hv=>?_,⟨fun e cs' he=>?_,fun e f cs1 cs2 he hf hq=>?_,fun e f o cs' he hf=>?_⟩,⟨h.tw.blk,fun q o hq=>?_,h.tw.wt,fun q o hq=>?_,h.tw.below⟩⟩
 ·rw [List.length_set];exact h.tl.length
 ·rcases aK ha with⟨rfl,rfl⟩ | ⟨_,ha⟩
  ·have hv':tm[i]?=some v:=by simpa using hv
   rw [hr] at hv';injection hv' with hv';subst hv'
   simp only [af]
  ·obtain⟨v',hv',hr'⟩:=h.tl.get ha
   rw [hv] at hv';injection hv' with hv';subst hv';exact hr'
 ·obtain⟨hne,he⟩:=jZ rfl he rfl
  obtain⟨q,q1,q2,q3,q4⟩:=h.own.ow e cs' he
  refine⟨q,q1,q2,?_,q4⟩
  have:q≠r':=fun hq=>hne (h.own.inj e d _ _ he hd (by rw [bP q1,Oy,hq]))
  unfold G.put;rw [if_neg this];exact q3
 ·exact h.own.inj e f _ _ (jZ rfl he rfl).2 (jZ rfl hf rfl).2 hq
 ·exact h.own.at_ e f o cs' (jZ rfl he rfl).2 (jZ rfl hf rfl).2
 ·unfold G.put at hq
  split at hq
  ·rename_i hq';subst hq'
   injection hq with hq;subst hq
   exact⟨h2,_,h5,C,e,rfl,h6⟩
  ·exact h.tw.obj q o hq
 ·unfold G.put at hq
  split at hq
  ·rename_i hq';subst hq';exact h4
  ·exact h.tw.wg q o hq
theorem Rel.Fw {σ:TE} {g:G} {t:List TV} {tm:Array Value} {w:World} (h:Rel P w0 σ g t tm w) (hno:Cj t) {d r:Nat} {cs:List TV} (hd:t[d]?=some (ET r)) (hg:g r=some (.own cs)):
  Rel P w0 σ (G.del g r) (t.set d (.ow cs)) tm w/\tm[d]?=some (.pointer (some ⟨r,0,none⟩))/\σ r=none:=by
 obtain⟨h2,O,hO,C,e,rfl,h6⟩:=h.tw.obj r _ hg
 have h4:=h.tw.wg r _ hg
 obtain⟨v,hv,hr⟩:=h.tl.get hd
 simp only [af] at hr
 subst hr
 have hr:tm[d]?=some (.pointer (some ⟨r,0,none⟩)):=by simpa using hv
 have Oy:bS tm d=r:=bP hr
 have hdl:d < t.length:=(List.getElem?_eq_some_iff.1 hd).1
 have case:∀{e:Nat} {cs':List TV},(t.set d (.ow cs))[e]?=some (.ow cs')->(e=d/\cs'=cs)\/(e≠d/\t[e]?=some (.ow cs')):=fun {e cs'} he=>by
  rcases aK he with⟨q1,q2⟩ | q
  ·injection q2 with q2;exact .inl ⟨q1,q2⟩
  ·exact .inr q
 have other:∀{e:Nat} {cs':List TV},t[e]?=some (.ow cs')->bS tm e≠r:=fun {e cs'} he hq=>by
  obtain⟨q,q1,_,q3,_⟩:=h.own.ow e cs' he
  rw [bP q1] at hq;subst hq
  rw [hg] at q3;cases q3
 refine⟨⟨ai.of ?_ fun i a v ha hv=>?_,⟨fun e cs' he=>?_,fun e f cs1 cs2 he hf hq=>?_,fun e f o cs' he hf=>?_⟩,⟨h.tw.blk,fun q o hq=>?_,h.tw.wt,fun q o hq=>?_,h.tw.below⟩⟩,hr,h2⟩
 ·rw [List.length_set];exact h.tl.length
 ·rcases aK ha with⟨rfl,rfl⟩ | ⟨_,ha⟩
  ·simp only [af]
  ·obtain⟨v',hv',hr'⟩:=h.tl.get ha
   rw [hv] at hv';injection hv' with hv';subst hv';exact hr'
 ·rcases case he with⟨rfl,rfl⟩ | ⟨hne,he⟩
  ·exact⟨r,hr,h2,by simp [G.del],h4,C,_,hO,h6⟩
  ·obtain⟨q,q1,q2,q3,q4⟩:=h.own.ow e cs' he
   refine⟨q,q1,q2,?_,q4⟩
   unfold G.del
   split
   ·rfl
   ·exact q3
 ·rcases case he with⟨q1,_⟩ | ⟨_,he1⟩
  ·rcases case hf with⟨q2,_⟩ | ⟨_,hf1⟩
   ·rw [q1,q2]
   ·rw [q1,Oy] at hq;exact absurd hq.symm (other hf1)
  ·rcases case hf with⟨q2,_⟩ | ⟨_,hf1⟩
   ·rw [q2,Oy] at hq;exact absurd hq (other he1)
   ·exact h.own.inj e f _ _ he1 hf1 hq
 ·exfalso
  rcases aK he with⟨_,q⟩ | ⟨_,he⟩
  ·cases q
  ·exact hno e f o he
 ·unfold G.del at hq
  split at hq
  ·cases hq
  ·exact h.tw.obj q o hq
 ·unfold G.del at hq
  split at hq
  ·cases hq
  ·exact h.tw.wg q o hq
theorem Eg {t:List TV} {tm:Array Value} {d r q:Nat} (h:qZ (t.set d (ET r)) tm q):qZ t tm q:=by
 obtain⟨e,cs,he,hq⟩:=h
 exact⟨e,cs,(jZ rfl he rfl).2,hq⟩
theorem TA.R7 {c:Code} {Q:Exit->St->Prop} {t:List TV} {ds:List Nat} {g:G} {d:Nat} {cs:List TV} (hd:t[d]?=some (.ow cs))
  (h:∀r,g r=none->TA P w0 ro c Q ⟨t.set d (ET r),ds,G.put g r (.own cs)⟩):TA P w0 ro c Q ⟨t,ds,g⟩:= .of fun σ a w m=>by
 obtain⟨r,h1,_⟩:=m.rel.own.ow d cs hd
 obtain⟨h3,h2,hr⟩:=m.rel.R7 hd h1
 refine wpIn_mono ((h r h3).get σ a w ⟨hr,m.d⟩) ?_
 rintro e a' w' ⟨s',σ',hq,hc⟩
 refine⟨s',σ',hq,⟨hc.step.rel,hc.step.ext,hc.step.size,fun q hq1 hq2 hq3 hq4=>?_⟩,hc.d⟩
 refine hc.step.frame q hq1 hq2 ?_ fun ho=>hq4 (Eg ho)
 have:q≠r:=fun e=>hq4 (by subst e;exact⟨d,cs,hd,bP h1⟩)
 show G.put g r (.own cs) q=none
 unfold G.put;rw [if_neg this];exact hq3
theorem TA.Fw {c:Code} {Q:Exit->St->Prop} {t:List TV} {ds:List Nat} {g:G} {d r:Nat} {cs:List TV} (hno:Cj t) (hd:t[d]?=some (ET r)) (hg:g r=some (.own cs))
  (h:TA P w0 ro c Q ⟨t.set d (.ow cs),ds,G.del g r⟩):TA P w0 ro c Q ⟨t,ds,g⟩:= .of fun σ a w m=>by
 obtain⟨hr,h1,h2⟩:=m.rel.Fw hno hd hg
 refine wpIn_mono (h.get σ a w ⟨hr,m.d⟩) ?_
 rintro e a' w' ⟨s',σ',hq,hc⟩
 refine⟨s',σ',hq,⟨hc.step.rel,hc.step.ext,hc.step.size,fun q hq1 hq2 hq3 hq4=>?_⟩,hc.d⟩
 have hqr:q≠r:=fun e=>by subst e;rw [show g q=none from hq3] at hg;cases hg
 refine hc.step.frame q hq1 hq2 (by show G.del g r q=none;unfold G.del;rw [if_neg hqr];exact(show g q=none from hq3)) fun⟨e,cs',he,hre⟩=>?_
 rcases aK he with⟨rfl,_⟩ | ⟨_,he⟩
 ·rw [bP h1] at hre;exact hqr hre.symm
 ·exact hq4 ⟨e,cs',he,hre⟩
theorem set_noat {t:List TV} (h:Cj t) {d:Nat} {v:TV} (hv:∀e o,v≠ .aac e o):Cj (t.set d v):=fun e f o he=>by
 rcases aK he with⟨_,q⟩ | ⟨_,q⟩
 ·exact hv f o q.symm
 ·exact h e f o q
variable {X:Nat->Option XK} {Y:iM} {SP:Spec}
theorem TA.borrow {S id:Nat} {ops:Array Oper} {K:List TV->Prop} {Q:Exit->St->Prop} {t:List TV} {ds:List Nat} {g:G} {d r:Nat} {cs:List TV} (hX:∀f x,X f=some x->C8 P f x) (hY:ky P w0 Y) (hSP:r9 P w0 SP) (hng:sW ops.toList=true) (hdd:d∉dstsOf ops.toList) (hno:Cj t)
  (hd:t[d]?=some (ET r)) (hg:g r=some (.own cs)) (h:qJ X Y SP (fun _=>none) S ops.toList K ops.toList (t.set d (.ow cs)))
  (hq:∀t',K t'->∃cs',t'[d]?=some (.ow cs')/\Q .normal ⟨t'.set d (ET r),ds,G.put g r (.own cs')⟩):TA P w0 ro (.region id ops false) Q ⟨t,ds,g⟩:= .of fun σ a w m=>by
 obtain⟨hr,h1,h2⟩:=m.rel.Fw hno hd hg
 have hops:=gm (P:=P) (w0:=w0) (ro:=ro) hX hY hSP (g:=G.del g r) (o9.refl S (t.set d (.ow cs))) h
 refine wpIn_region (aQ.puts (σ0:=σ) (g0:=G.del g r) (t0:=t.set d (.ow cs)) (a0:=a) (w1:=w) ?_ ops.toList 0 _ _ _ a w hng rfl (fun xs=>⟨xs,rfl⟩) hops (Step.refl hr))
 rintro t' g' σ' w' xs ⟨hk,_,rfl⟩ s
 obtain⟨cs',hd',hQ⟩:=hq t' hk
 have htm:(tH a ops.toList xs).tmps[d]?=some (.pointer (some ⟨r,0,none⟩)):=by rw [qN _ _ _ hdd];exact h1
 obtain⟨_,k2,hr'⟩:=s.rel.R7 hd' htm
 have hgg:G.put (G.del g r) r (.own cs')=G.put g r (.own cs'):=by
  funext k;unfold G.put G.del;split<;>rfl
 rw [hgg] at hr'
 refine⟨_,σ',hQ,⟨hr',s.ext,s.size,fun q hq1 hq2 hq3 hq4=>?_⟩,by rw [nE];exact m.d⟩
 have hqr:q≠r:=fun e=>by subst e;rw [show g q=none from hq3] at hg;cases hg
 obtain⟨f1,f2,f3,f4⟩:=s.frame q hq1 hq2 (by show G.del g r q=none;unfold G.del;rw [if_neg hqr];exact(show g q=none from hq3)) fun⟨e,c2,he,hre⟩=>by
  rcases aK he with⟨rfl,_⟩ | ⟨_,he⟩
  ·rw [bP h1] at hre;exact hqr hre.symm
  ·exact hq4 ⟨e,c2,he,hre⟩
 exact⟨f1,f2,by show G.put g r (.own cs') q=none;unfold G.put;rw [if_neg hqr];exact(show g q=none from hq3),fun ho=>f4 (Eg ho)⟩
end
end Go.TM
namespace Go.Proofs.YtgledbghdhjgkaaGreatDoor
open Go Go.TM
set_option maxRecDepth 100000
theorem q0_ (r l:Nat) (vz vn vr vc va vd vo i j k:Int):True/\TV.ow (VT vz vn vr vc va vd vo)=TV.ow [TV.np vz [TV.s [TV.f] (some vn)],TV.i IntKind.i64 (some vr),TV.i IntKind.i64 (some vc),TV.i IntKind.i64 (some va),TV.i IntKind.i64 (some vd),TV.i IntKind.i64 (some vo)]/\TV.ow [TV.i IntKind.i64 (some 0),TV.i IntKind.i64 (some 0),TV.val (Value.slice none 0 0)]=TV.ow [TV.i IntKind.i64 (some 0),TV.i IntKind.i64 (some 0),TV.val (Value.slice none 0 0)]/\True/\True/\True/\True/\True/\True/\True/\True/\True/\True/\True/\True/\True/\True/\True/\True/\True/\True/\True/\True:=by
 repeat' (first | intro _ | refine And.intro ?_ ?_)
 all_goals first | trivial | rfl | omega
theorem q1_ (r l:Nat) (vz vn vr vc va vd vo i j k:Int):True/\TV.ow (VT vz vn vr vc va vd vo)=TV.ow (VT vz vn vr vc va vd vo)/\TV.ow [TV.i IntKind.i64 (some 0),TV.i IntKind.i64 (some 0),TV.val (Value.slice none 0 0)]=TV.ow [TV.i IntKind.i64 (some 0),TV.i IntKind.i64 (some 0),TV.val (Value.slice none 0 0)]/\TV.ow [TV.i IntKind.i64 (some vr),TV.i IntKind.i64 (some vc),TV.val (Value.slice none 0 0)]=TV.ow [TV.i IntKind.i64 (some vr),TV.i IntKind.i64 (some vc),TV.val (Value.slice none 0 0)]/\True/\True/\True/\True/\True/\True/\True/\True/\True/\True/\True/\True/\True/\True/\True/\True/\True/\True/\True:=by
 repeat' (first | intro _ | refine And.intro ?_ ?_)
 all_goals first | trivial | rfl | omega
theorem q2_ (r l:Nat) (vz vn vr vc va vd vo i j k:Int) (hp:0<=vz/\vz<=1/\0<=vr/\vr<=512/\0<=vc/\vc<=512/\0<=va/\va<=1000000000000/\0<=vd/\vd<=1000000/\0<=vo/\vo<=1000000/\vn<=1000000000/\(1<=vr->1<=vc->vz=1/\va+(vr - 1)*vd+(vc - 1)*vo < vn)):(0<=vz/\vz<=1/\0<=vr/\vr<=512/\0<=vc/\vc<=512/\0<=va/\va<=1000000000000/\0<=vd/\vd<=1000000/\0<=vo/\vo<=1000000/\vn<=1000000000/\(1<=vr->1<=vc->vz=1/\va+(vr - 1)*vd+(vc - 1)*vo < vn))/\(∀(x lW kN nk sw xV IJ:Int),x=vz/\lW=vn/\kN=vr/\nk=vc/\sw=va/\xV=vd/\IJ=vo->True/\TV.ow (VT vz vn vr vc va vd vo)=TV.ow (VT vz vn vr vc va vd vo)/\TV.ow [TV.i IntKind.i64 (some 0),TV.i IntKind.i64 (some 0),TV.val (Value.slice none 0 0)]=TV.ow [TV.i IntKind.i64 (some 0),TV.i IntKind.i64 (some 0),TV.val (Value.slice none 0 0)]/\TV.ow [TV.i IntKind.i64 (some vr),TV.i IntKind.i64 (some vc),TV.val (Value.slice none 0 0)]=TV.ow [TV.i IntKind.i64 (some vr),TV.i IntKind.i64 (some vc),TV.val (Value.slice none 0 0)]/\True/\True/\True/\True/\True/\True/\True/\True/\TV.fn 303 [] [TV.p (VT vz vn vr vc va vd vo)]=TV.fn 303 [] [TV.p [TV.np x [TV.s [TV.f] (some lW)],TV.i IntKind.i64 (some kN),TV.i IntKind.i64 (some nk),TV.i IntKind.i64 (some sw),TV.i IntKind.i64 (some xV),TV.i IntKind.i64 (some IJ)]]/\True/\True/\True/\True/\True/\True/\True/\True/\True/\True)/\True:=by
 refine⟨hp,?_,trivial⟩
 rintro _ _ _ _ _ _ _ ⟨rfl,rfl,rfl,rfl,rfl,rfl,rfl⟩
 repeat' refine And.intro ?_ ?_
 all_goals first | trivial | rfl
theorem q3_ (r l:Nat) (vz vn vr vc va vd vo i j k:Int):True/\True/\True/\ET r=ET r/\True/\TV.f=TV.f/\True/\True/\True/\True/\True/\True/\True/\True/\True/\True/\True/\True/\True/\True/\True/\True/\True:=by
 repeat' (first | intro _ | refine And.intro ?_ ?_)
 all_goals first | trivial | rfl | omega
theorem q4_ (r l:Nat) (vz vn vr vc va vd vo i j k:Int) (h0:k < 300000):k+(1:Int)<=1073741824/\True/\True/\True/\TV.ow [TV.i IntKind.i64 (some vr),TV.i IntKind.i64 (some vc),TV.s [TV.f] (some (k+1))]=TV.ow [TV.i IntKind.i64 (some vr),TV.i IntKind.i64 (some vc),TV.s [TV.f] (some (k+1))]/\True/\TV.f=TV.f/\True/\True/\True/\True/\True/\True/\True/\True/\True/\True/\True/\True/\True/\True/\True/\True/\True:=by
 repeat' (first | intro _ | refine And.intro ?_ ?_)
 all_goals first | trivial | rfl | omega
theorem q5_ (r l:Nat) (vz vn vr vc va vd vo i j k:Int):True/\True/\TV.ow [TV.i IntKind.i64 (some vr),TV.i IntKind.i64 (some vc),TV.s [TV.f] (some k)]=TV.ow [TV.i IntKind.i64 (some vr),TV.i IntKind.i64 (some vc),TV.s [TV.f] (some k)]/\True/\True/\True/\True/\True/\True/\True/\True/\True/\True/\True/\True/\True/\True/\True/\True/\True/\True/\True/\True:=by
 repeat' (first | intro _ | refine And.intro ?_ ?_)
 all_goals first | trivial | rfl | omega
theorem ve (w0:World) (hi:au Tryz.prog w0 its) (ht:ag w0 184):aD Tryz.prog w0 185 kZ where
 goes:=aO _ Tryz.f185 _ (by kernel_rfl) rfl
 live:=fun xs hl hp=>by
  obtain⟨vz,vn,vr,vc,va,vd,vo,rfl⟩:=len7 hl
  have hp:0<=vz/\vz<=1/\0<=vr/\vr<=512/\0<=vc/\vc<=512/\0<=va/\va<=1000000000000/\0<=vd/\vd<=1000000/\0<=vo/\vo<=1000000/\vn<=1000000000/\(1<=vr->1<=vc->vz=1/\va+(vr - 1)*vd+(vc - 1)*vo < vn):=hp
  obtain⟨b1,b2⟩:=bf vr vc (by omega) (by omega) (by omega) (by omega)
  exact⟨_,_,List.mem_cons_self ..,[vr,vc,vr*vc],rfl,(show 0<=vr*vc/\vr*vc<=262144/\vr=vr/\vc=vc/\vr*vc=vr*vc from⟨b1,b2,rfl,rfl,rfl⟩),rfl⟩
 call:=fun xs hl hp g=>by
  obtain⟨vz,vn,vr,vc,va,vd,vo,rfl⟩:=len7 hl
  have hp:0<=vz/\vz<=1/\0<=vr/\vr<=512/\0<=vc/\vc<=512/\0<=va/\va<=1000000000000/\0<=vd/\vd<=1000000/\0<=vo/\vo<=1000000/\vn<=1000000000/\(1<=vr->1<=vc->vz=1/\va+(vr - 1)*vd+(vc - 1)*vo < vn):=hp
  obtain⟨hz0,hz1,hr0,hr1,hc0,hc1,hrest⟩:=id hp
  obtain⟨b1,b2⟩:=bf vr vc (by omega) (by omega) (by omega) (by omega)
  refine av.fewer (av.qF bI (fn:=Tryz.f185) (by kernel_rfl) rfl rfl ?_)
  refine TA.seq (TA.jY (S:=2 ^ 22 - 1) (K:=aB ([J_,(.ow (VT vz vn vr vc va vd vo)),(.ow [.i .i64 (some 0), .i .i64 (some 0), .val (.slice none 0 0)]),J_,J_,J_,J_,J_,J_,J_,J_,J_,J_,J_,J_,J_,J_,J_,J_,J_,J_,J_])) bG bI (gX ht) (Eq.mpr (by kernel_rfl) (q0_ 0 0 vz vn vr vc va vd vo 0 0 0)) fun t1 h1=>?_)
  refine TA.seq (TA.jo (aB.jo h1 rfl) (TA.jY (S:=2 ^ 22 - 1) (K:=aB ([J_,(.ow (VT vz vn vr vc va vd vo)),(.ow [.i .i64 (some 0), .i .i64 (some 0), .val (.slice none 0 0)]),(.ow [.i .i64 (some vr), .i .i64 (some vc), .val (.slice none 0 0)]),J_,J_,J_,J_,J_,J_,J_,J_,J_,J_,J_,J_,J_,J_,J_,J_,J_,J_])) bG bI (gX ht) (Eq.mpr (by kernel_rfl) (q1_ 0 0 vz vn vr vc va vd vo 0 0 0)) fun t2 h2=>?_))
  refine TA.seq (TA.seq (TA.jo (aB.jo h2 rfl) (TA.jY (S:=2 ^ 22 - 1) (K:=aB ([J_,(.ow (VT vz vn vr vc va vd vo)),(.ow [.i .i64 (some 0), .i .i64 (some 0), .val (.slice none 0 0)]),(.ow [.i .i64 (some vr), .i .i64 (some vc), .val (.slice none 0 0)]),J_,J_,J_,J_,J_,J_,J_,J_,(.fn 303 [] [.p (VT vz vn vr vc va vd vo)]),J_,J_,J_,J_,J_,J_,J_,J_,J_])) bG bI (gX ht) (Eq.mpr (by kernel_rfl) (q2_ 0 0 vz vn vr vc va vd vo 0 0 0 hp)) fun t3 h3=>?_)))
  let e3:List TV:=[J_,J_,(.ow [.i .i64 (some 0), .i .i64 (some 0), .val (.slice none 0 0)]),(.ow [.i .i64 (some vr), .i .i64 (some vc), .s [.f] (some 0)]),J_,J_,J_,J_,J_,J_,J_,J_,(.fn 303 [] [.p (VT vz vn vr vc va vd vo)]),J_,J_,J_,J_,J_,J_,J_,J_,J_]
  have hs3:Fs Tryz.prog w0 t3 e3:=by
   refine Fs.trans (aB.jo (c:=[J_,J_,(.ow [.i .i64 (some 0), .i .i64 (some 0), .val (.slice none 0 0)]),(.ow [.i .i64 (some vr), .i .i64 (some vc), .val (.slice none 0 0)]),J_,J_,J_,J_,J_,J_,J_,J_,(.fn 303 [] [.p (VT vz vn vr vc va vd vo)]),J_,J_,J_,J_,J_,J_,J_,J_,J_]) (h3.gW (by simp [aB])) rfl) (Ja.jo (Ja.set (d:=3) (u:=(.ow [.i .i64 (some vr), .i .i64 (some vc), .s [.f] (some 0)])) (Ja.refl (fun d e o q=>?_)) fun v hv=>?_))
   ·exact qy (c:=[J_,J_,(.ow [.i .i64 (some 0), .i .i64 (some 0), .val (.slice none 0 0)]),(.ow [.i .i64 (some vr), .i .i64 (some vc), .val (.slice none 0 0)]),J_,J_,J_,J_,J_,J_,J_,J_,(.fn 303 [] [.p (VT vz vn vr vc va vd vo)]),J_,J_,J_,J_,J_,J_,J_,J_,J_]) rfl _ (List.mem_of_getElem? q) e o rfl
   ·simp at hv
    subst hv
    refine .inr ⟨_,_,rfl,rfl,fun σ vs h=>?_⟩
    simp only [ai] at h ⊢
    obtain⟨v1,r1,rfl,q1,v2,r2,rfl,q2,v3,r3,rfl,q3,rfl⟩:=h
    refine⟨v1,_,rfl,q1,v2,_,rfl,q2,v3,_,rfl,?_,rfl⟩
    simp only [af] at q3 ⊢
    subst q3
    exact⟨none,0,0,rfl,fun z hz=>(by cases hz;rfl),⟨by omega,by omega,fun q=>by cases q⟩,fun _=>rfl,fun a ha=>by cases ha⟩
  refine TA.block (TA.jo hs3 (TA.R7 (d:=3) (cs:=[.i .i64 (some vr), .i .i64 (some vc), .s [.f] (some 0)]) rfl fun r hgr=>?_))
  refine TA.zD (f:=303) (fs:=[]) (cs:=[.p (VT vz vn vr vc va vd vo)]) rfl (aO _ Tryz.f303 _ (by kernel_rfl) rfl) (fun l df hl hdf hne hdd=>?_) (fun r hr=>by cases hr)
  have hlr:l≠r:=fun e=>by
   have:G.put g r (.own [.i .i64 (some vr), .i .i64 (some vc), .s [.f] (some 0)]) l=none:=hl
   rw [e] at this;simp [G.put] at this
  have hdr:df≠r:=fun e=>by
   have:G.put g r (.own [.i .i64 (some vr), .i .i64 (some vc), .s [.f] (some 0)]) df=none:=hdf
   rw [e] at this;simp [G.put] at this
  have hgl:g l=none:=by
   have:G.put g r (.own [.i .i64 (some vr), .i .i64 (some vc), .s [.f] (some 0)]) l=none:=hl
   simpa [G.put,hlr] using this
  have hgd:g df=none:=by
   have:G.put g r (.own [.i .i64 (some vr), .i .i64 (some vc), .s [.f] (some 0)]) df=none:=hdf
   simpa [G.put,hdr] using this
  generalize hrec:fH _ _ _ _ _=QJ
  refine(II (Iv:=fun k g'=>g'=G.put (G.put (G.put (G.put g r (.own [.i .i64 (some vr), .i .i64 (some vc), .s [.f] (some (0))])) df .ng) l (.loop QJ)) r (.own [.i .i64 (some vr), .i .i64 (some vc), .s [.f] (some (k))])) (D:=fun _=>False) (fun f l F h1 h2=>ht f l F h1 (by omega)) l vz vn vr vc va vd vo hp (fun i j g' hi0 hi1 hj0 hj1 hg'=>?_) ?_).mono ?_
  ·have hg':g'=G.put (G.put (G.put (G.put g r (.own [.i .i64 (some vr), .i .i64 (some vc), .s [.f] (some (0))])) df .ng) l (.loop QJ)) r (.own [.i .i64 (some vr), .i .i64 (some vc), .s [.f] (some (i*vc+j))]):=hg'
   have hm:=eT i vr vc (by omega) (by omega) (by omega)
   have hgl':g' l=some (.loop QJ):=by rw [hg'];simp [G.put,hlr]
   subst hrec
   refine⟨_,hgl',rfl,fun {d v} hv=>GG hv,?_⟩
   refine TA.jY (S:=2 ^ 22 - 1) (K:=aB ([J_,J_,J_,(ET r),J_, .f,J_,J_,J_,J_,J_,J_,J_,J_,J_,J_,J_,J_,J_,J_,J_,J_])) bG bI (gX ht) (Eq.mpr (by kernel_rfl) (q3_ r l vz vn vr vc va vd vo i j 0)) fun t4 h4=>?_
   refine⟨rfl,_,hgl',rfl,?_,rfl⟩
   refine TA.block (TA.jo (aB.jo h4 rfl) (TA.borrow (S:=2 ^ 22 - 1) (d:=3) (r:=r) (cs:=[.i .i64 (some vr), .i .i64 (some vc), .s [.f] (some (i*vc+j))]) (K:=aB ([J_,J_,J_,(.ow [.i .i64 (some vr), .i .i64 (some vc), .s [.f] (some (i*vc+j+1))]),J_, .f,J_,J_,J_,J_,J_,J_,J_,J_,J_,J_,J_,J_,J_,J_,J_,J_])) bG bI (gX ht) rfl (by decide) ?_ rfl ?_ (Eq.mpr (by kernel_rfl) (q4_ r l vz vn vr vc va vd vo i j (i*vc+j) (by omega))) fun t5 h5=>?_))
   ·exact fun d e o q=>qy (c:=[J_,J_,J_,(ET r),J_, .f,J_,J_,J_,J_,J_,J_,J_,J_,J_,J_,J_,J_,J_,J_,J_,J_]) rfl _ (List.mem_of_getElem? q) e o rfl
   ·show G.put g' l _ r=_
    rw [hg'];simp [G.put,Ne.symm hlr]
   ·obtain⟨u,hu,hq⟩:=h5.get (d:=3) rfl
    rcases hq with hq | hq
    ·cases hq
    subst hq
    refine⟨_,hu,none,_,rfl,by simp [G.put,hlr];rfl, .inl ⟨rfl,?_⟩⟩
    simp only
    rw [hg']
    funext x
    simp only [G.put]
    by_cases hx:x=l
    ·subst hx
     simp [hlr];rfl
    ·by_cases hx2:x=r
     ·subst hx2;simp [hx]
     ·simp [hx,hx2]
  ·show(G.put (G.put (G.put g r (.own [.i .i64 (some vr), .i .i64 (some vc), .s [.f] (some (0))])) df .ng) l (.loop QJ))=G.put (G.put (G.put (G.put g r (.own [.i .i64 (some vr), .i .i64 (some vc), .s [.f] (some (0))])) df .ng) l (.loop QJ)) r (.own [.i .i64 (some vr), .i .i64 (some vc), .s [.f] (some (0))])
   exact(G.Bu (by simp [G.put,Ne.symm hlr,Ne.symm hdr])).symm
  ·rintro v g' (hq | hq)
   ·have hq:g'=G.put (G.put (G.put (G.put g r (.own [.i .i64 (some vr), .i .i64 (some vc), .s [.f] (some (0))])) df .ng) l (.loop QJ)) r (.own [.i .i64 (some vr), .i .i64 (some vc), .s [.f] (some (vr*vc))]):=hq
    have hgl2:g' l=some (.loop QJ):=by rw [hq];simp [G.put,hlr]
    subst hrec
    refine⟨_,hgl2,by simp [fH],?_⟩
    show TA Tryz.prog w0 none _ _ ⟨_,_,_⟩
    refine TA.Fw (d:=3) (r:=r) (cs:=[.i .i64 (some vr), .i .i64 (some vc), .s [.f] (some (vr*vc))]) (fun d e o q=>qy (c:=[J_,J_,(.ow [.i .i64 (some 0), .i .i64 (some 0), .val (.slice none 0 0)]),(ET r),J_,J_,J_,J_,J_,J_,J_,J_,(.fn 303 [] [.p (VT vz vn vr vc va vd vo)]),J_,J_,J_,J_,J_,J_,J_,J_,J_]) rfl _ (List.mem_of_getElem? q) e o rfl) rfl (by rw [hq];simp [G.put,Ne.symm hlr]) ?_
    refine TA.seq (TA.jo (aB.jo (c:=[J_,J_,(.ow [.i .i64 (some 0), .i .i64 (some 0), .val (.slice none 0 0)]),(.ow [.i .i64 (some vr), .i .i64 (some vc), .s [.f] (some (vr*vc))]),J_,J_,J_,J_,J_,J_,J_,J_,J_,J_,J_,J_,J_,J_,J_,J_,J_,J_]) (by simp [aB,e3]) rfl) (TA.jY (S:=2 ^ 22 - 1) (K:=aB ([J_,J_,(.ow [.i .i64 (some vr), .i .i64 (some vc), .s [.f] (some (vr*vc))]),J_,J_,J_,J_,J_,J_,J_,J_,J_,J_,J_,J_,J_,J_,J_,J_,J_,J_,J_])) bG bI (gX ht) (Eq.mpr (by kernel_rfl) (q5_ r l vz vn vr vc va vd vo 0 0 (vr*vc))) fun t6 h6=>?_))
    refine TA.jo (aB.jo h6 rfl) (TA.ret ⟨.inr rfl,by simp,fun q hq2=>?_,_,(by kernel_rfl:I7 Y7 _ _=some [.agg [.i .i64 (some vr), .i .i64 (some vc), .s [.f] (some (vr*vc))]]),⟨_,List.mem_cons_self ..,[vr,vc,vr*vc],rfl,(show 0<=vr*vc/\vr*vc<=262144/\vr=vr/\vc=vc/\vr*vc=vr*vc from⟨b1,b2,rfl,rfl,rfl⟩),rfl⟩,fun q o ho=>?_⟩)
    ·have hq2:q=df:=by simpa using hq2
     subst hq2
     rw [hq]
     show G.del (G.put _ l _) r _=_
     simp [G.del,G.put,hdr,Ne.symm hne]
    ·show eQ (G.del (G.put g' l _) r) [df] q=some o
     have h1:q≠l:=fun e=>by subst e;rw [hgl] at ho;cases ho
     have h2:q≠r:=fun e=>by subst e;rw [hgr] at ho;cases ho
     have h3:q≠df:=fun e=>by subst e;rw [hgd] at ho;cases ho
     rw [hq]
     simp [eQ,G.del,G.put,h1,h2,h3,ho]
   ·exact hq.elim
end Go.Proofs.YtgledbghdhjgkaaGreatDoor
namespace Go.TM
open Go Go.RowKit Go.AM
section
variable {P:Program} {w0:World} {ro:Option Nat} {ops:List Oper} {Q:List TV->G->Prop} {o q:Oper} {l:List Oper} {t t':List TV} {g:G} {j d:Nat}
theorem jr {b:Bool} (hg:o.guard=some (j,true)) (hj:ops[j]?=some q) (hd:q.dst=some d) (hs:Go.TM.slot t d= .b (some b)):dG ops t o=match b with | true=> .yes | false=> .no:=by
 unfold dG
 rw [hg]
 simp only [hj,hd,hs]
 cases b<;>rfl
theorem aQ.yes (hw:dG ops t o= .yes) (h:iL P w0 ro o t g fun t g=>aQ P w0 ro ops Q l t g):aQ P w0 ro ops Q (o::l) t g:=by
 unfold aQ
 rw [hw];exact h
theorem aQ.no (hw:dG ops t o= .no) (h:aQ P w0 ro ops Q l (eG t o.dst .un) g):aQ P w0 ro ops Q (o::l) t g:=by
 unfold aQ
 rw [hw];exact h
theorem aQ.silG (hg:o.guard=some (j,true)) (hj:ops[j]?=some q) (hd:q.dst=some d) (h1:Go.TM.slot t d= .b (some true)) (h2:Go.TM.slot t' d= .b (some true)) (hs:Fs P w0 t t') (h:aQ P w0 ro ops Q (o::l) t' g):aQ P w0 ro ops Q (o::l) t g:=by
 unfold aQ at h ⊢
 rw [jr hg hj hd h1]
 rw [jr hg hj hd h2] at h
 exact iL.jo hs h
theorem aQ.split {p:Prop} (hg:o.guard=some (j,true)) (hj:ops[j]?=some q) (hd:q.dst=some d) (hs:t[d]?=some (.bp p)) (ht:p->aQ P w0 ro ops Q (o::l) (t.set d (.b (some true))) g) (hf:¬p->aQ P w0 ro ops Q (o::l) (t.set d (.b (some false))) g):aQ P w0 ro ops Q (o::l) t g:=by
 have hsl:=vM hs
 have hlt:d < t.length:=(List.getElem?_eq_some_iff.1 hs).1
 have hw:dG ops t o= .may d true:=by
  unfold dG
  rw [hg]
  simp only [hj,hd,hsl]
 have e1:Go.TM.slot (t.set d (.b (some true))) d= .b (some true):=vM (by simp [hlt])
 have e2:Go.TM.slot (t.set d (.b (some false))) d= .b (some false):=vM (by simp [hlt])
 unfold aQ
 rw [hw]
 refine⟨fun h=>?_,fun h=>?_⟩
 ·rw [hsl] at h
  have h1:=ht h
  unfold aQ at h1
  rw [jr hg hj hd e1] at h1
  exact h1
 ·rw [hsl] at h
  have h1:=hf h
  unfold aQ at h1
  rw [jr hg hj hd e2] at h1
  exact h1
end
end Go.TM
namespace Go.Proofs.YtgledbghdhjgkaaGreatDoor
open Go Go.TM
set_option maxRecDepth 100000
theorem w0_ (l:Nat) (i:Int):TV.y l=TV.y l/\True/\TV.i IntKind.i64 (some 1)=TV.i IntKind.i64 (some 1)/\True/\True/\True/\True/\True/\True/\True/\True/\True/\True:=by
 repeat' (first | intro _ | refine And.intro ?_ ?_)
 all_goals first | trivial | rfl | omega
theorem w1_ (l:Nat) (i:Int):TV.y l=TV.y l/\True/\TV.i IntKind.i64 (some i)=TV.i IntKind.i64 (some i)/\True/\True/\TV.bp (i<=2)=TV.bp (i<=2)/\True/\True/\True/\True/\True/\True/\True:=by
 repeat' (first | intro _ | refine And.intro ?_ ?_)
 all_goals first | trivial | rfl | omega
theorem w2_ (l:Nat) (i:Int):TV.y l=TV.y l/\True/\TV.i IntKind.i64 (some i)=TV.i IntKind.i64 (some i)/\True/\True/\TV.b (some true)=TV.b (some true)/\TV.y l=TV.y l/\TV.i IntKind.i64 (some i)=TV.i IntKind.i64 (some i)/\True/\True/\True/\True/\True:=by
 repeat' (first | intro _ | refine And.intro ?_ ?_)
 all_goals first | trivial | rfl | omega
theorem w3t_ (l:Nat) (i:Int):TV.y l=TV.y l/\True/\TV.i IntKind.i64 (some i)=TV.i IntKind.i64 (some i)/\True/\True/\True/\True/\True/\True/\TV.b (some true)=TV.b (some true)/\True/\True/\True:=by
 repeat' (first | intro _ | refine And.intro ?_ ?_)
 all_goals first | trivial | rfl | omega
theorem w3f_ (l:Nat) (i:Int):TV.y l=TV.y l/\True/\TV.i IntKind.i64 (some i)=TV.i IntKind.i64 (some i)/\True/\True/\True/\True/\True/\True/\TV.b (some false)=TV.b (some false)/\True/\True/\True:=by
 repeat' (first | intro _ | refine And.intro ?_ ?_)
 all_goals first | trivial | rfl | omega
theorem w4_ (l:Nat) (i:Int):TV.y l=TV.y l/\True/\TV.i IntKind.i64 (some i)=TV.i IntKind.i64 (some i)/\True/\True/\True/\True/\True/\True/\TV.b (some false)=TV.b (some false)/\True/\True/\True:=by
 repeat' (first | intro _ | refine And.intro ?_ ?_)
 all_goals first | trivial | rfl | omega
theorem w5_ (l:Nat) (i:Int) (h0:0<=i) (h1:i < 600):-9223372036854775808<=i+1/\i+(1:Int)<=9223372036854775807/\TV.y l=TV.y l/\True/\TV.i IntKind.i64 (some (i+1))=TV.i IntKind.i64 (some (i+1))/\True/\True/\True/\True/\True/\True/\True/\True/\True/\True:=by
 repeat' (first | intro _ | refine And.intro ?_ ?_)
 all_goals first | trivial | rfl | omega
theorem Tt {w0:World} (ht:ag w0 173) {cs:List TV} {K:List TV->Prop} (h:QB cs K):AM.Goes Tryz.prog 92/\∀l g r J,(∀e,J e->∃j,AM.Exit.jump e=some j)->g l=some (.loop r)->r.state= .ready->r.pending=none->(∀{d:Nat} {v:TV},r.tmps[d]?=some v->v.plain=true)->
  (∀args,K args->Ac Tryz.prog w0 l r g J args)->av Tryz.prog w0 92 (.y l::cs) g (nG l r g J):=by
 unfold QB at h
 split at h
 ·refine⟨aO _ Tryz.f92 _ (by kernel_rfl) rfl,fun l g rr J hJ hl hst hpd hpl QI=>?_⟩
  have hend:nG l rr g J (.b none) g:=by
   refine⟨.ready,none,by simp,?_,trivial⟩
   obtain⟨st,pd,tms,prs,asn,bdy,dfs⟩:=rr
   simp only at hst hpd
   subst hst;subst hpd
   exact(G.Bu hl).symm
  have fin:∀{e:Exit} {t:List TV} {g':G},(e= .normal\/e= .ret)->nG l rr g J (.b none) g'->WW Y7 Tryz.f92 (nG l rr g J) e ⟨t,[],g'⟩:=fun he hq=>⟨he,List.nodup_nil,fun r hr=>(by cases hr),[],rfl,hq⟩
  refine av.qF bI (fn:=Tryz.f92) (by kernel_rfl) rfl rfl ?_
  refine TA.seq (TA.jY (S:=2 ^ 12 - 1) (K:=aB ([(.y l),J_,(.i .i64 (some 1)),J_,J_,J_,J_,J_,J_,J_,J_,J_])) bG bI (gX ht) (Eq.mpr (by kernel_rfl) (w0_ l 0)) fun t1 h1=>?_)
  refine TA.block (TA.loop (fun n s=>∃i:Int,1<=i/\i<=3/\(n:Int)=3 - i/\s.d=[]/\aB ([(.y l),J_,(.i .i64 (some i)),J_,J_,J_,J_,J_,J_,J_,J_,J_]) s.t/\s.g=g) (n0:=2) ⟨1,by omega,by omega,by omega,rfl,h1,rfl⟩ ?_)
  rintro n ⟨t,d,g'⟩ ⟨i,hi0,hi1,hn,hd,hlk,hgg⟩
  have hd:d=[]:=hd
  have hgg:g'=g:=hgg
  subst hd;subst hgg
  refine TA.jo (aB.jo hlk rfl) (TA.seq (TA.seq (TA.region ?_)))
  refine aQ.append (l1:=[_,_,_]) (l2:=[_,_,_,_]) (aQ.jY (S:=2 ^ 12 - 1) (K:=aB ([(.y l),J_,(.i .i64 (some i)),J_,J_,(.bp (i<=2)),J_,J_,J_,J_,J_,J_])) bG bI (gX ht) (Eq.mpr (by kernel_rfl) (w1_ l i)) fun t2 h2=>?_)
  have e5:t2[5]?=some (.bp (i<=2)):=by
   obtain⟨u,hu,hq⟩:=h2.get (d:=5) rfl
   rcases hq with hq | hq
   ·cases hq
   ·rw [hu, <- hq]
  refine aQ.split (j:=2) rfl rfl rfl e5 (fun hle=>?_) (fun hle=>?_)
  ·have h2':=h2.set (d:=5) (v:= .b (some true))
   refine aQ.append (l1:=[_,_]) (l2:=[_,_]) ?_
   refine aQ.silG (j:=2) (d:=5) rfl rfl rfl (h2'.slot (d:=5) rfl (by simp)) rfl (aB.jo (c:=[(.y l),J_,(.i .i64 (some i)),J_,J_,(.b (some true)),J_,J_,J_,J_,J_,J_]) (h2'.gW (by simp [aB])) rfl) (aQ.jY (S:=2 ^ 12 - 1) (K:=aB ([(.y l),J_,(.i .i64 (some i)),J_,J_,(.b (some true)),(.y l),(.i .i64 (some i)),J_,J_,J_,J_])) bG bI (gX ht) (Eq.mpr (by kernel_rfl) (w2_ l i)) fun t3 h3=>?_)
   refine aQ.yes (jr (j:=2) (d:=5) rfl rfl rfl (h3.slot (d:=5) rfl (by simp))) (qz.op rfl (h3.slot (d:=6) rfl (by simp)) ?_)
   have ea:List.map (dw t3) (Array.toList #[Operand.tmp 7])=[.i .i64 (some i)]:=by
    show [(slot t3 7).zL]=_
    rw [h3.slot (d:=7) rfl (by simp)]
    rfl
   rw [ea]
   obtain⟨q,y1,y2,y3,y4⟩:=(QI _ (h i hi0 hle)).yields hJ hl hst hpd hpl
   refine⟨q,y1,y2,y3,y4.mono fun e s1 hq=>?_⟩
   obtain⟨ye,r1,yl,ys,yb,yr⟩:=hq
   refine⟨ye,r1,yl,ys,yb.mono fun e2 s2 hq2=>?_,yr⟩
   obtain⟨jj,r2,yj,yg,yk⟩:=hq2
   refine⟨jj,r2,yj,yg,?_⟩
   rcases yk with⟨yv,yI⟩ | ⟨yv,yD⟩
   ·rw [yv,yI]
    refine aQ.jo rfl (aB.jo (c:=[(.y l),J_,(.i .i64 (some i)),J_,J_,(.b (some true)),J_,J_,(.b (some true)),J_,J_,J_]) (h3.set.gW (by simp [aB])) rfl) (aQ.jY (S:=2 ^ 12 - 1) (K:=aB ([(.y l),J_,(.i .i64 (some i)),J_,J_,J_,J_,J_,J_,(.b (some true)),J_,J_])) bG bI (gX ht) (Eq.mpr (by kernel_rfl) (w3t_ l i)) fun t4 h4=>?_)
    have e9:ev t4 (.tmp 9)= .b (some true):=h4.slot (d:=9) rfl (by simp)
    refine TA.cond (by rw [e9];rfl) (fun q3=>?_) (fun q3=>?_)
    ·refine TA.skip (TA.seq (TA.block (TA.skip ?_)))
     refine TA.jo (aB.jo (c:=[(.y l),J_,(.i .i64 (some i)),J_,J_,J_,J_,J_,J_,J_,J_,J_]) (h4.gW (by simp [aB])) rfl) (TA.jY (S:=2 ^ 12 - 1) (K:=aB ([(.y l),J_,(.i .i64 (some (i+1))),J_,J_,J_,J_,J_,J_,J_,J_,J_])) bG bI (gX ht) (Eq.mpr (by kernel_rfl) (w5_ l i (by omega) (by omega))) fun t5 h5=>?_)
     exact⟨n - 1,by omega,i+1,by omega,by omega,by omega,rfl,h5,rfl⟩
    ·rw [e9] at q3;exact absurd q3 (by simp [TV.holds])
   ·rw [yv]
    refine aQ.jo rfl (aB.jo (c:=[(.y l),J_,(.i .i64 (some i)),J_,J_,(.b (some true)),J_,J_,(.b (some false)),J_,J_,J_]) (h3.set.gW (by simp [aB])) rfl) (aQ.jY (S:=2 ^ 12 - 1) (K:=aB ([(.y l),J_,(.i .i64 (some i)),J_,J_,J_,J_,J_,J_,(.b (some false)),J_,J_])) bG bI (gX ht) (Eq.mpr (by kernel_rfl) (w3f_ l i)) fun t4 h4=>?_)
    have e9:ev t4 (.tmp 9)= .b (some false):=h4.slot (d:=9) rfl (by simp)
    refine TA.cond (by rw [e9];rfl) (fun q3=>?_) (fun q3=>?_)
    ·rw [e9] at q3;exact absurd q3 (by simp [TV.holds])
    ·exact TA.exit (fin (.inl rfl) yD)
  ·have h2':=h2.set (d:=5) (v:= .b (some false))
   refine aQ.no (jr (j:=2) (d:=5) rfl rfl rfl (h2'.slot (d:=5) rfl (by simp))) ?_
   have h3:=h2'.set (d:=6) (v:= .un)
   refine aQ.no (jr (j:=2) (d:=5) rfl rfl rfl (h3.slot (d:=5) rfl (by simp))) ?_
   have h4:=h3.set (d:=7) (v:= .un)
   refine aQ.no (jr (j:=2) (d:=5) rfl rfl rfl (h4.slot (d:=5) rfl (by simp))) ?_
   have h5:=h4.set (d:=8) (v:= .un)
   refine aQ.jo rfl (aB.jo (c:=[(.y l),J_,(.i .i64 (some i)),J_,J_,(.b (some false)), .un, .un, .un,J_,J_,J_]) (h5.gW (by simp [aB])) rfl) (aQ.jY (S:=2 ^ 12 - 1) (K:=aB ([(.y l),J_,(.i .i64 (some i)),J_,J_,J_,J_,J_,J_,(.b (some false)),J_,J_])) bG bI (gX ht) (Eq.mpr (by kernel_rfl) (w4_ l i)) fun t6 h6=>?_)
   have e9:ev t6 (.tmp 9)= .b (some false):=h6.slot (d:=9) rfl (by simp)
   refine TA.cond (by rw [e9];rfl) (fun q3=>?_) (fun q3=>?_)
   ·rw [e9] at q3;exact absurd q3 (by simp [TV.holds])
   ·exact TA.exit (fin (.inl rfl) hend)
 ·exact h.elim
theorem its_ok {w0:World} (ht:ag w0 173):au Tryz.prog w0 its:=by
 intro f cs K h
 unfold its at h
 cases e:Nat.beq f 303 with
 | true=>
  rw [e] at h
  have:=Nat.eq_of_beq_eq_true e
  subst this
  exact VG ht h
 | false=>
  rw [e] at h
  cases e2:Nat.beq f 92 with
  | true=>
   rw [e2] at h
   have:=Nat.eq_of_beq_eq_true e2
   subst this
   exact Tt ht h
  | false=>rw [e2] at h;exact h.elim
end Go.Proofs.YtgledbghdhjgkaaGreatDoor
namespace Go.Proofs.YtgledbghdhjgkaaGreatDoor
open Go Go.TM
set_option maxRecDepth 100000
set_option maxHeartbeats 2000000 in
theorem VH (W:Value) (Q:Int->Int->Int->Prop) (n:Int):True/\(True->((1:Int)=1->TV.val W=TV.val W/\(∀(x lW kN nk:Int),(nk=0->Q 1 n n/\x=n/\lW=n/\kN=n*n/\0<=n/\n<=512)/\0<=kN/\kN<=262144/\0<=nk/\nk<=10->(¬nk=0->(0:Int)<=0/\((0:Int)=0\/Q 1 n n/\0<=n/\n<=512/\0<=30*n)\/False)/\(¬¬nk=0->(0<=x/\x<=512/\0<=lW/\lW<=512/\kN=x*lW)/\(∀(sw xV IJ Jr EU eH:Int),EU=IJ*Jr/\0<=IJ/\IJ<=512/\0<=Jr/\Jr<=512/\0<=EU/\EU<=262144/\0<=sw/\sw<=512/\0<=xV/\xV<=512/\-10000<=eH/\eH<=10000/\sw<=x->(0<=EU/\EU<=1000000000/\0<=sw/\sw<=1000000000/\0<=xV/\xV<=1000000000)/\(∀(x Ba jd yN ni:Int),yN=Ba*jd/\0<=Ba/\Ba<=512/\0<=jd/\jd<=512/\0<=yN/\yN<=262144/\0<=x/\x<=1000000000/\0<=ni/\ni<=30*sw->∀(BG:Int),-9223372036854775808<=BG->BG<=9223372036854775807->(¬BG=0->0<=ni/\(ni=0\/Q 1 n n/\0<=n/\n<=512/\ni<=30*n)\/False)/\(¬¬BG=0->(0<=x/\x<=1000000000)/\(∀(lM:Int),lM=x->(0<=lM/\lM<=1000000000/\0<=kN/\kN<=1000000000/\0<=yN/\yN<=1000000000)/\(True->∀(n_2:Int),-9223372036854775808<=n_2->n_2<=9223372036854775807->(True->(¬n_2=0->0<=ni/\(ni=0\/Q 1 n n/\0<=n/\n<=512/\ni<=30*n)\/False)/\(¬¬n_2=0->0<=ni/\(ni=0\/Q 1 n n/\0<=n/\n<=512/\ni<=30*n)\/False))/\(True->0<=ni/\(ni=0\/Q 1 n n/\0<=n/\n<=512/\ni<=30*n)\/False))/\True)/\True))/\True)/\True))/\True)/\(¬(1:Int)=1->((1:Int)=2->TV.val W=TV.val W/\(∀(x lW kN nk:Int),(nk=0->Q 1 n n/\x=n/\lW=n/\kN=n*n/\0<=n/\n<=512)/\0<=kN/\kN<=262144/\0<=nk/\nk<=10->(¬nk=0->(0:Int)<=0/\((0:Int)=0\/Q 1 n n/\0<=n/\n<=512/\0<=30*n)\/False)/\(¬¬nk=0->(0<=x/\x<=512/\0<=lW/\lW<=512/\kN=x*lW)/\(∀(sw xV IJ Jr EU eH:Int),¬(EU=IJ*Jr/\0<=IJ/\IJ<=512/\0<=Jr/\Jr<=512/\0<=EU/\EU<=262144/\0<=sw/\sw<=512/\0<=xV/\xV<=512/\-10000<=eH/\eH<=10000/\sw<=x))/\True))/\True)/\(¬(1:Int)=2->((1:Int)=3->TV.val W=TV.val W/\(∀(x lW kN nk:Int),(nk=0->Q 1 n n/\x=n/\lW=n/\kN=n*n/\0<=n/\n<=512)/\0<=kN/\kN<=262144/\0<=nk/\nk<=10->(¬nk=0->(0:Int)<=0/\((0:Int)=0\/Q 1 n n/\0<=n/\n<=512/\0<=30*n)\/False)/\(¬¬nk=0->(0<=x/\x<=512/\0<=lW/\lW<=512/\kN=x*lW)/\(∀(sw xV IJ Jr EU eH:Int),¬(EU=IJ*Jr/\0<=IJ/\IJ<=512/\0<=Jr/\Jr<=512/\0<=EU/\EU<=262144/\0<=sw/\sw<=512/\0<=xV/\xV<=512/\-10000<=eH/\eH<=10000/\sw<=x))/\True))/\True)/\¬¬(1:Int)=3)))/\True:=by
 have f0:=bf n n
 try simp only [or_false]
 repeat' (first | (with_reducible refine and_imp.mpr ?_) | (unhygienic intro) | refine And.intro ?_ ?_)
 all_goals try simp only [and_true,true_and,or_true,true_or,or_false,false_or,and_false,false_and,not_true_eq_false,not_false_eq_true]
 all_goals first | trivial | rfl | omega | (simp only [and_true,true_and] at*;omega) | (have hq:=‹(_:Int)=0->Q 1 n n/\_› (by omega);obtain⟨q1,q2,q3,q4,q5⟩:=hq;first | omega | (subst_vars;omega) | (subst_vars;exact .inr ⟨q1,by omega,by omega,by omega⟩) | (subst_vars;exact .inr ⟨q1,by omega,by omega,by omega,by omega,fun h=>⟨by omega,by omega⟩⟩) | (subst_vars;exact .inr ⟨q1,by omega,by omega,by omega,by omega,fun h=>(by cases h)⟩))
theorem QK {w0:World} (hi:au Tryz.prog w0 its) (ht:ag w0 244) {W:Value} {Q:Int->Int->Int->Prop} (hx:aL Tryz.prog w0 (exA W Q)) (n:Int) (g:G):av Tryz.prog w0 12 [.i .i64 (some n), .val W, .i .i64 (some 1)] g fun v g'=>bJ [n] [altE Q] v/\g'=g:=
 av.G5 (an:=fun _=>none) (iv:=fun _=>none) mixed' bG bI hi (bA hx (Fu fun f l F h1 h2=>ht f l F h1 h2)) (aP hx (GZ fun f l F h1 h2=>ht f l F h1 h2)) (fn:=Tryz.f12) (by kernel_rfl) (by kernel_rfl) (Eq.mpr (by kernel_rfl) (VH W Q n)) g
set_option maxHeartbeats 2000000 in
theorem VI (W:Value) (Q:Int->Int->Int->Prop) (m n w:Int) (hp:w=1\/w=2):True/\(True->((0:Int)<=0/\((0:Int)=0\/Q 0 m n/\0<=m/\m<=512/\0<=n/\n<=512/\(w=1->0<=30*m/\0<=30*n))\/False)/\TV.val W=TV.val W/\(∀(x lW kN nk:Int),(nk=0->Q 0 m n/\x=m/\lW=n/\kN=m*n/\0<=m/\m<=512/\0<=n/\n<=512)/\0<=kN/\kN<=262144/\0<=nk/\nk<=10->(¬nk=0->(0:Int)<=0/\((0:Int)=0\/Q 0 m n/\0<=m/\m<=512/\0<=n/\n<=512/\(w=1->0<=30*m/\0<=30*n))\/False)/\(¬¬nk=0->(0<=x/\x<=512/\0<=lW/\lW<=512/\kN=x*lW)/\(∀(sw xV IJ Jr:Int),IJ=sw*xV/\0<=sw/\sw<=512/\0<=xV/\xV<=512/\0<=IJ/\IJ<=262144/\sw<=x/\xV<=lW->True/\(True->True/\(∀(EU:Int),x < lW/\EU=1\/¬x < lW/\EU=0->(w=1/\EU=0/\True->(0<=sw/\sw<=512/\0<=xV/\xV<=512/\IJ=sw*xV)/\(∀(x eH Ba jd yN ni lM bC EW:Int),0<=x/\x<=1000000000/\0<=jd/\jd<=1000000000/\0<=lM/\lM<=1000000000/\0<=bC/\bC<=30*xV->(¬EW=0->0<=bC/\(bC=0\/Q 0 m n/\0<=m/\m<=512/\0<=n/\n<=512/\(w=1->bC<=30*m/\bC<=30*n))\/False)/\(¬¬EW=0->((7000:Int)=7000/\(0:Int)<=0)/\∀(bz:Int),(7000:Int)=7000/\0<=bz->(bz < x->0<=bz/\bz+1<=x/\True/\(True->0<=bz/\bz+1<=x/\-9223372036854775808<=bz+1/\bz+(1:Int)<=9223372036854775807/\x - (bz+1) < x - bz/\0<=x - bz/\(7000:Int)=7000/\0<=bz+1)/\True)/\(¬bz < x->(0<=x/\x<=1000000000/\0<=kN/\kN<=1000000000/\0<=jd/\jd<=1000000000/\0<=lM/\lM<=1000000000)/\(True->∀(BG:Int),-9223372036854775808<=BG->BG<=9223372036854775807->(True->(¬BG=0->0<=bC/\(bC=0\/Q 0 m n/\0<=m/\m<=512/\0<=n/\n<=512/\(w=1->bC<=30*m/\bC<=30*n))\/False)/\(¬¬BG=0->0<=bC/\(bC=0\/Q 0 m n/\0<=m/\m<=512/\0<=n/\n<=512/\(w=1->bC<=30*m/\bC<=30*n))\/False))/\(True->0<=bC/\(bC=0\/Q 0 m n/\0<=m/\m<=512/\0<=n/\n<=512/\(w=1->bC<=30*m/\bC<=30*n))\/False))/\True)))/\True)/\(¬(w=1/\EU=0/\True)->(w=2/\EU=0/\True->(0<=sw/\sw<=512/\0<=xV/\xV<=512/\IJ=sw*xV)/\(∀(x eH Ba jd yN ni lM bC EW:Int),0<=x/\x<=1000000000/\0<=jd/\jd<=1000000000/\0<=lM/\lM<=1000000000/\0<=bC/\bC<=30->(¬EW=0->0<=bC/\(bC=0\/Q 0 m n/\0<=m/\m<=512/\0<=n/\n<=512/\(w=1->bC<=30*m/\bC<=30*n))\/False)/\(¬¬EW=0->((7000:Int)=7000/\(0:Int)<=0)/\∀(bz:Int),(7000:Int)=7000/\0<=bz->(bz < x->0<=bz/\bz+1<=x/\True/\(True->0<=bz/\bz+1<=x/\-9223372036854775808<=bz+1/\bz+(1:Int)<=9223372036854775807/\x - (bz+1) < x - bz/\0<=x - bz/\(7000:Int)=7000/\0<=bz+1)/\True)/\(¬bz < x->(0<=x/\x<=1000000000/\0<=kN/\kN<=1000000000/\0<=jd/\jd<=1000000000/\0<=lM/\lM<=1000000000)/\(True->∀(BG:Int),-9223372036854775808<=BG->BG<=9223372036854775807->(True->(¬BG=0->0<=bC/\(bC=0\/Q 0 m n/\0<=m/\m<=512/\0<=n/\n<=512/\(w=1->bC<=30*m/\bC<=30*n))\/False)/\(¬¬BG=0->0<=bC/\(bC=0\/Q 0 m n/\0<=m/\m<=512/\0<=n/\n<=512/\(w=1->bC<=30*m/\bC<=30*n))\/False))/\(True->0<=bC/\(bC=0\/Q 0 m n/\0<=m/\m<=512/\0<=n/\n<=512/\(w=1->bC<=30*m/\bC<=30*n))\/False))/\True)))/\True)/\(¬(w=2/\EU=0/\True)->(w=1/\EU=1/\True->(0<=sw/\sw<=512/\0<=xV/\xV<=512/\IJ=sw*xV)/\(∀(x eH Ba jd yN ni lM bC EW:Int),0<=x/\x<=1000000000/\0<=jd/\jd<=1000000000/\0<=lM/\lM<=1000000000/\0<=bC/\bC<=30*sw->(¬EW=0->0<=bC/\(bC=0\/Q 0 m n/\0<=m/\m<=512/\0<=n/\n<=512/\(w=1->bC<=30*m/\bC<=30*n))\/False)/\(¬¬EW=0->((7000:Int)=7000/\(0:Int)<=0)/\∀(bz:Int),(7000:Int)=7000/\0<=bz->(bz < x->0<=bz/\bz+1<=x/\True/\(True->0<=bz/\bz+1<=x/\-9223372036854775808<=bz+1/\bz+(1:Int)<=9223372036854775807/\x - (bz+1) < x - bz/\0<=x - bz/\(7000:Int)=7000/\0<=bz+1)/\True)/\(¬bz < x->(0<=x/\x<=1000000000/\0<=kN/\kN<=1000000000/\0<=jd/\jd<=1000000000/\0<=lM/\lM<=1000000000)/\(True->∀(BG:Int),-9223372036854775808<=BG->BG<=9223372036854775807->(True->(¬BG=0->0<=bC/\(bC=0\/Q 0 m n/\0<=m/\m<=512/\0<=n/\n<=512/\(w=1->bC<=30*m/\bC<=30*n))\/False)/\(¬¬BG=0->0<=bC/\(bC=0\/Q 0 m n/\0<=m/\m<=512/\0<=n/\n<=512/\(w=1->bC<=30*m/\bC<=30*n))\/False))/\(True->0<=bC/\(bC=0\/Q 0 m n/\0<=m/\m<=512/\0<=n/\n<=512/\(w=1->bC<=30*m/\bC<=30*n))\/False))/\True)))/\True)/\(¬(w=1/\EU=1/\True)->(w=2/\EU=1/\True->(0<=sw/\sw<=512/\0<=xV/\xV<=512/\IJ=sw*xV)/\(∀(x eH Ba jd yN ni lM bC EW:Int),0<=x/\x<=1000000000/\0<=jd/\jd<=1000000000/\0<=lM/\lM<=1000000000/\0<=bC/\bC<=30->(¬EW=0->0<=bC/\(bC=0\/Q 0 m n/\0<=m/\m<=512/\0<=n/\n<=512/\(w=1->bC<=30*m/\bC<=30*n))\/False)/\(¬¬EW=0->((7000:Int)=7000/\(0:Int)<=0)/\∀(bz:Int),(7000:Int)=7000/\0<=bz->(bz < x->0<=bz/\bz+1<=x/\True/\(True->0<=bz/\bz+1<=x/\-9223372036854775808<=bz+1/\bz+(1:Int)<=9223372036854775807/\x - (bz+1) < x - bz/\0<=x - bz/\(7000:Int)=7000/\0<=bz+1)/\True)/\(¬bz < x->(0<=x/\x<=1000000000/\0<=kN/\kN<=1000000000/\0<=jd/\jd<=1000000000/\0<=lM/\lM<=1000000000)/\(True->∀(BG:Int),-9223372036854775808<=BG->BG<=9223372036854775807->(True->(¬BG=0->0<=bC/\(bC=0\/Q 0 m n/\0<=m/\m<=512/\0<=n/\n<=512/\(w=1->bC<=30*m/\bC<=30*n))\/False)/\(¬¬BG=0->0<=bC/\(bC=0\/Q 0 m n/\0<=m/\m<=512/\0<=n/\n<=512/\(w=1->bC<=30*m/\bC<=30*n))\/False))/\(True->0<=bC/\(bC=0\/Q 0 m n/\0<=m/\m<=512/\0<=n/\n<=512/\(w=1->bC<=30*m/\bC<=30*n))\/False))/\True)))/\True)/\¬¬(w=2/\EU=1/\True)))))/\True)/\True)/\True))/\True)/\True:=by
 have f0:=bf m n
 try simp only [or_false]
 repeat' (first | (with_reducible refine and_imp.mpr ?_) | (unhygienic intro) | refine And.intro ?_ ?_)
 all_goals try simp only [and_true,true_and,or_true,true_or,or_false,false_or,and_false,false_and,not_true_eq_false,not_false_eq_true]
 all_goals first | trivial | rfl | omega | (simp only [and_true,true_and] at*;omega) | (have hq:=‹(_:Int)=0->Q 0 m n/\_› (by omega);obtain⟨q1,q2,q3,q4,q5⟩:=hq;first | omega | (subst_vars;omega) | (subst_vars;exact .inr ⟨q1,by omega,by omega,by omega⟩) | (subst_vars;exact .inr ⟨q1,by omega,by omega,by omega,by omega,fun h=>⟨by omega,by omega⟩⟩) | (subst_vars;exact .inr ⟨q1,by omega,by omega,by omega,by omega,fun h=>(by cases h)⟩))
theorem QL {w0:World} (hi:au Tryz.prog w0 its) (ht:ag w0 244) {W:Value} {Q:Int->Int->Int->Prop} (hx:aL Tryz.prog w0 (exA W Q)) (m n w:Int) (hp:w=1\/w=2) (g:G):av Tryz.prog w0 8 [.i .i64 (some m), .i .i64 (some n), .val W, .i .i64 (some w)] g fun v g'=>bJ [m,n,w] [altS Q] v/\g'=g:=
 av.G5 (an:=fun _=>none) (iv:=fun q_=>(bif Nat.beq q_ 0 then some ⟨[(56, .i .i64 (some 0))],[],fun | [t56,z]=>(7000:Int)=7000/\(0<=t56) | _=>False,fun | [t56,z]=>z - t56 | _=>0,0,[(55, .i .i64 (some 0))]⟩ else none)) mixed' bG bI hi (bA hx (Fu fun f l F h1 h2=>ht f l F h1 h2)) (aP hx (GZ fun f l F h1 h2=>ht f l F h1 h2)) (fn:=Tryz.f8) (by kernel_rfl) (by kernel_rfl) (Eq.mpr (by kernel_rfl) (VI W Q m n w hp)) g
end Go.Proofs.YtgledbghdhjgkaaGreatDoor
