/-
  A part of the proof that TopSteps answers true for every input that can be read as data.
-/
import Derived.Test.YtgledbghdhjgkaaGreatDoorZC
import Derived.TacticsIn
import Derived.RangeFuncLeaves
import Derived.RangeFuncCalls
import Derived.RangeFuncNested
import Derived.OrdersIn
set_option linter.unusedSimpArgs false
set_option linter.unusedVariables false
namespace Go
section
variable {F:Fence} {n:Nat} {P:Program} {b:Frame} {a:Act} {k:List Item} {cs:List Frame} {w:World} {Q:Exit->Act->World->Prop}
theorem iE {c:Code}:step P (lone (b.atR a (.code (.scope c)::k)) cs w)= .next (lone (b.atR a (.code c:: .inScope c::k)) cs w):=
 step_lone_go (by simp [stepG,stepG.exec,Frame.atR])
theorem FR {c:Code}:step P (lone (b.atR a (.inScope c::k)) cs w)= .next (lone (b.atR a k) cs w):=
 step_lone_go (by simp [stepG,stepG.exec,Frame.atR])
theorem kQ {c:Code} (h:c.wpIn F n P (Exit.noGoto Q) a w):(Code.scope c).wpIn F n P Q a w:=by
 intro b k cs hro hb hr
 have h0:(lone (b.atR a (.code (.scope c)::k)) cs w).fenced P F:=fenced_calm hb hr rfl
 obtain⟨e,a₁,w₁,hq,harr⟩:=h b (.inScope c::k) cs hro hb hr
 cases e with
 | normal=>exact⟨.normal,a₁,w₁,hq, .head h0 iE (StepsIn.trans harr (.one (fenced_calm hb hr rfl) FR))⟩
 | exit id=>
  have hx:exitTo id (.inScope c::k)=exitTo id k:=by simp [exitTo]
  exact⟨.exit id,a₁,w₁,hq,fun k' hk=> .head h0 iE (harr.1 k' (by rw [hx];exact hk)),
   fun hr' hk=>let ⟨k₁,h1,h2⟩:=harr.2 hr' (by rw [hx];exact hk);⟨k₁,h1, .head h0 iE h2⟩⟩
 | goto l=>exact hq.elim
 | ret=>exact⟨_,a₁,w₁,hq, .of_steps (.one h0 iE) harr⟩
 | panic ch=>exact⟨_,a₁,w₁,hq, .of_steps (.one h0 iE) harr⟩
 | outgrown=>exact⟨_,a₁,w₁,hq, .of_steps (.one h0 iE) harr⟩
end
end Go
namespace Go.AM
open Go Go.RowKit
theorem Post.spoil {w0:World} {σ:aZ} {g:Mem} {N:Nat} {w w':World} (r:eF σ g N w) (b:Base w0 σ g w) (d:Nat) (o:ax) (hd:g d=some o) (hro:o.ro=false)
  (hs:w'.heap.size=w.heap.size) (he:∀k,k≠σ.at_ d->w'.heap[k]?=w.heap[k]?) (h1:w'.os=w.os) (h2:w'.tape=w.tape) (h3:w'.output=w.output):
  Post w0 σ g N w σ (Mem.del g d) N w':=by
 have hwr:=b.wr d o hd hro
 have key:∀e q,Mem.del g d e=some q->e≠d/\g e=some q:=by
  intro e q h
  unfold Mem.del at h
  by_cases y:e=d
  ·rw [if_pos y] at h;cases h
  ·rw [if_neg y] at h;exact⟨y,h⟩
 refine⟨.refl _ _,⟨by omega,fun k hk hw=>⟨he k (fun e=>hw d o hd hro e.symm),fun e q h hr=>hw e q (key e q h).2 hr⟩,fun k hk hw e q h=>hw e q (key e q h).2⟩,⟨fun e q h=>?_,fun e f q1 q2 a1 a2 hq x=>r.inj e f q1 q2 (key e q1 a1).2 (key f q2 a2).2 hq x⟩,
  ⟨h1.trans b.os,h2.trans b.tape,h3.trans b.output,by rw [hs];exact b.size,fun k hk=>by rw [he k (by omega)];exact b.block k hk,fun e q h hr=>b.wr e q (key e q h).2 hr⟩⟩
 obtain⟨hne,hg⟩:=key e q h
 obtain⟨hN,Q,hQ,hr⟩:=r.ob e q hg
 exact⟨hN,Q,by rw [he _ (fun x=>hne (r.inj d e o q hd hg hro x.symm).symm)];exact hQ,hr⟩
structure bY where
 t:List AV
 d:List Nat
 g:Mem
 N:Nat
def marks (σ:aZ) (d:List Nat):List Deferred:=d.map fun r=>{target:= .collected (σ.at_ r),args:=#[]}
structure Loc (σ:aZ) (ro:Option Nat) (s:bY) (a:Act):Prop where
 t:ai σ s.N s.t a.tmps.toList
 d:a.defers=marks σ s.d
 dl:∀r∈s.d,r < s.N
 rl:∀l,ro=some l->l < s.N
structure IZ (w0:World) (σ:aZ) (ro:Option Nat) (s:bY) (a:Act) (w:World):Prop where
 loc:Loc σ ro s a
 rel:eF σ s.g s.N w
 base:Base w0 σ s.g w
theorem Loc.ext {σ σ':aZ} {ro:Option Nat} {t:List AV} {d:List Nat} {g g':Mem} {N N':Nat} {a:Act} (h:Ext σ N σ' N') (l:Loc σ ro ⟨t,d,g,N⟩ a):Loc σ' ro ⟨t,d,g',N'⟩ a:=
 ⟨ai.ext h _ _ l.t,by
  rw [l.d]
  unfold marks
  refine List.map_congr_left fun r hr=>?_
  rw [h.at_ r (l.dl r hr)],fun r hr=>Nat.lt_of_lt_of_le (l.dl r hr) h.le,fun r hr=>Nat.lt_of_lt_of_le (l.rl r hr) h.le⟩
theorem Loc.put {σ:aZ} {ro:Option Nat} {s:bY} {a:Act} (l:Loc σ ro s a) {v:AV} {x:Value} (hv:af σ s.N v x) (d:Option Nat):Loc σ ro {s with t:=eG s.t d v} (a.put d x):=by
 cases d with
 | none=>exact⟨l.t,l.d,l.dl,l.rl⟩
 | some d=>
  refine⟨?_,l.d,l.dl,l.rl⟩
  have:=l.t.set d hv
  simpa [eG,Act.put] using this
structure Came (w0:World) (σ:aZ) (ro:Option Nat) (s:bY) (w:World) (σ':aZ) (s':bY) (a':Act) (w':World):Prop where
 loc:Loc σ' ro s' a'
 post:Post w0 σ s.g s.N w σ' s'.g s'.N w'
theorem Came.sim {w0:World} {σ σ':aZ} {ro:Option Nat} {s s':bY} {w w':World} {a':Act} (c:Came w0 σ ro s w σ' s' a' w'):IZ w0 σ' ro s' a' w':=⟨c.loc,c.post.rel,c.post.base⟩
theorem Came.trans {w0:World} {σ σ1 σ2:aZ} {ro:Option Nat} {s s1 s2:bY} {w w1 w2:World} {a1 a2:Act} (c:Came w0 σ ro s w σ1 s1 a1 w1) (c2:Came w0 σ1 ro s1 w1 σ2 s2 a2 w2):Came w0 σ ro s w σ2 s2 a2 w2:=
 ⟨c2.loc,c.post.trans c2.post⟩
theorem IZ.came {w0:World} {σ:aZ} {ro:Option Nat} {s:bY} {w:World} {a:Act} (m:IZ w0 σ ro s a w):Came w0 σ ro s w σ s a w:=⟨m.loc,Post.refl m.rel m.base⟩
abbrev qX (σ:aZ) (ro:Option Nat):Fence:={Fence.wide with round:=ro.map σ.at_}
theorem Le {σ σ':aZ} {ro:Option Nat} {N N':Nat} (h:Ext σ N σ' N') (hl:∀l,ro=some l->l < N):qX σ' ro=qX σ ro:=by
 unfold qX
 cases ro with
 | none=>rfl
 | some l=>simp [h.at_ l (hl l rfl)]
section
variable {P:Program} {w0:World} {ro:Option Nat}
def AW (P:Program) (w0:World) (ro:Option Nat) (c:Code) (Q:Exit->bY->Prop) (s:bY):Prop:=
 ∀σ a w,IZ w0 σ ro s a w->c.wpIn (qX σ ro) 0 P (fun e a' w'=>∃s' σ',Q e s'/\Came w0 σ ro s w σ' s' a' w') a w
def jC (P:Program) (w0:World) (f:FuncId) (args:List AV) (g:Mem) (N:Nat) (Q:AV->Mem->Nat->Prop):Prop:=
 ∀σ w vs,ai σ N args vs.toList->eF σ g N w->Base w0 σ g w->CallsIn Fence.wide 0 P f vs w fun e w'=>∃v r g' N' σ',e= .returned v/\Q r g' N'/\Post w0 σ g N w σ' g' N' w'/\af σ' N' r v
theorem AW.mono {c:Code} {Q Q':Exit->bY->Prop} {s:bY} (h:AW P w0 ro c Q s) (hq:∀e s',Q e s'->Q' e s'):AW P w0 ro c Q' s:=fun σ a w m=>
 wpIn_mono (h σ a w m) fun e a' w' ⟨s',σ',q,c⟩=>⟨s',σ',hq e s' q,c⟩
theorem jC.mono {f:FuncId} {args:List AV} {g:Mem} {N:Nat} {Q Q':AV->Mem->Nat->Prop} (h:jC P w0 f args g N Q) (hq:∀r g' N',Q r g' N'->Q' r g' N'):jC P w0 f args g N Q':=fun σ w vs h1 h2 h3=>
 CallsIn.mono (h σ w vs h1 h2 h3) fun e w' ⟨v,r,g',N',σ',h1,h2,h3⟩=>⟨v,r,g',N',σ',h1,hq _ _ _ h2,h3⟩
theorem AW.skip {Q:Exit->bY->Prop} {s:bY} (h:Q .normal s):AW P w0 ro .skip Q s:=fun σ a w m=>wpIn_skip ⟨s,σ,h,m.came⟩
theorem AW.label {Q:Exit->bY->Prop} {s:bY} {l:Nat} (h:Q .normal s):AW P w0 ro (.label l) Q s:=fun σ a w m=>wpIn_label ⟨s,σ,h,m.came⟩
theorem AW.ret {Q:Exit->bY->Prop} {s:bY} (h:Q .ret s):AW P w0 ro .ret Q s:=fun σ a w m=>wpIn_ret ⟨s,σ,h,m.came⟩
theorem AW.exit {Q:Exit->bY->Prop} {s:bY} {i:Nat} (h:Q (.exit i) s):AW P w0 ro (.exit i) Q s:=fun σ a w m=>wpIn_exit ⟨s,σ,h,m.came⟩
theorem AW.goto {Q:Exit->bY->Prop} {s:bY} {i:Nat} (h:Q (.goto i) s):AW P w0 ro (.goto i) Q s:=fun σ a w m=>wpIn_goto ⟨s,σ,h,m.came⟩
theorem AW.behind {c:Code} {Q:Exit->bY->Prop} {s s1:bY} {σ σ1:aZ} {w w1:World} {a1:Act} (h:AW P w0 ro c Q s1) (k:Came w0 σ ro s w σ1 s1 a1 w1) (hl:∀l,ro=some l->l < s.N):
  c.wpIn (qX σ ro) 0 P (fun e a' w'=>∃s' σ',Q e s'/\Came w0 σ ro s w σ' s' a' w') a1 w1:=by
 have:=h σ1 a1 w1 k.sim
 rw [Le k.post.ext hl] at this
 exact wpIn_mono this fun e a' w' ⟨s',σ',q,k'⟩=>⟨s',σ',q,k.trans k'⟩
def thenS (K:bY->Prop) (Q:Exit->bY->Prop):Exit->bY->Prop
 | .normal,s=>K s
 | e,s=>Q e s
theorem AW.seq {x y:Code} {Q:Exit->bY->Prop} {s:bY} (h:AW P w0 ro x (thenS (AW P w0 ro y Q) Q) s):AW P w0 ro (.seq x y) Q s:=fun σ a w m=>by
 refine wpIn_seq (wpIn_mono (h σ a w m) fun e a' w' ⟨s',σ',q,k⟩=>?_)
 cases e with
 | normal=>exact AW.behind q k m.loc.rl
 | _=>exact⟨s',σ',q,k⟩
theorem AW.cond {c:Operand} {x y:Code} {Q:Exit->bY->Prop} {s:bY} {z:Option Bool} (hc:ev s.t c= .b z) (ht:z≠some false->AW P w0 ro x Q s) (hf:z≠some true->AW P w0 ro y Q s):AW P w0 ro (.cond c x y) Q s:=fun σ a w m=>by
 have hv:=aN m.loc.t c
 rw [hc] at hv
 obtain⟨b,hb,hz⟩:=zu hv
 refine wpIn_cond hb ?_
 cases b with
 | true=>exact ht (by rcases hz with rfl | rfl<;>simp) σ a w m
 | false=>exact hf (by rcases hz with rfl | rfl<;>simp) σ a w m
def ik (id:Nat) (Q:Exit->bY->Prop):Exit->bY->Prop
 | .exit id',s=>if id'=id then Q .normal s else Q (.exit id') s
 | e,s=>Q e s
theorem AW.block {id:Nat} {x:Code} {Q:Exit->bY->Prop} {s:bY} (h:AW P w0 ro x (ik id Q) s):AW P w0 ro (.block id x) Q s:=fun σ a w m=>by
 refine wpIn_block (wpIn_mono (h σ a w m) fun e a' w' ⟨s',σ',q,k⟩=>?_)
 cases e with
 | exit i=>
  by_cases hi:i=id
  ·simp only [ik,Exit.inBlock,hi,if_true] at q ⊢;exact⟨s',σ',q,k⟩
  ·simp only [ik,Exit.inBlock,hi,if_false] at q ⊢;exact⟨s',σ',q,k⟩
 | _=>exact⟨s',σ',q,k⟩
def Fa (Q:Exit->bY->Prop):Exit->bY->Prop
 | .goto _,_=>False
 | e,s=>Q e s
theorem AW.scope {x:Code} {Q:Exit->bY->Prop} {s:bY} (h:AW P w0 ro x (Fa Q) s):AW P w0 ro (.scope x) Q s:=fun σ a w m=>by
 refine kQ (wpIn_mono (h σ a w m) fun e a' w' ⟨s',σ',q,k⟩=>?_)
 cases e with
 | goto l=>exact q.elim
 | _=>exact⟨s',σ',q,k⟩
theorem AW.loop {x:Code} {Q:Exit->bY->Prop} {s:bY} (I:Nat->bY->Prop) {n0:Nat} (h0:I n0 s) (hN:∀n s',I n s'->AW P w0 ro x (thenS (fun s2=>∃n2,n2 < n/\I n2 s2) Q) s'):AW P w0 ro (.loop x) Q s:=fun σ a w m=>by
 intro b k cs hro hb hr
 have key:∀n s1 σ1 a1 w1,I n s1->Came w0 σ ro s w σ1 s1 a1 w1->∃e a' w',(∃s' σ',Q e s'/\Came w0 σ ro s w σ' s' a' w')/\ArrivesIn (Machine.fenced P (qX σ ro)) P (lone (b.atR a1 (.code x:: .inLoop x::k)) cs w1) b k cs e a' w':=by
  intro n
  induction n using Nat.strongRecOn with
  | _ n ih=>
   intro s1 σ1 a1 w1 hI hc
   obtain⟨e,a2,w2,⟨s2,σ2,hq,hk⟩,harr⟩:=AW.behind (hN n s1 hI) hc m.loc.rl b (.inLoop x::k) cs hro hb hr
   cases e with
   | normal=>
    obtain⟨n2,hlt,hI2⟩:=hq
    obtain⟨e3,a3,w3,hq3,JR⟩:=ih n2 hlt s2 σ2 a2 w2 hI2 hk
    exact⟨e3,a3,w3,hq3, .of_steps (StepsIn.trans harr (.one (fenced_calm hb hr rfl) stepR_inLoop)) JR⟩
   | exit id=>exact⟨_,a2,w2,⟨s2,σ2,hq,hk⟩, .pass (x:= .inLoop x) rfl (fun _ _=> .inl (by simp)) harr⟩
   | goto l=>exact⟨_,a2,w2,⟨s2,σ2,hq,hk⟩, .pass (x:= .inLoop x) rfl (fun _ _=> .inl (by simp)) harr⟩
   | ret=>exact⟨_,a2,w2,⟨s2,σ2,hq,hk⟩, .pass (x:= .inLoop x) rfl (fun _ _=> .inl (by simp)) harr⟩
   | panic ch=>exact⟨_,a2,w2,⟨s2,σ2,hq,hk⟩, .pass (x:= .inLoop x) rfl (fun _ _=> .inl (by simp)) harr⟩
   | outgrown=>exact⟨_,a2,w2,⟨s2,σ2,hq,hk⟩, .pass (x:= .inLoop x) rfl (fun _ _=> .inl (by simp)) harr⟩
 obtain⟨e,a',w',hq,harr⟩:=key n0 s σ a w h0 m.came
 exact⟨e,a',w',hq, .of_steps (.one (fenced_calm hb hr rfl) stepR_loop) harr⟩
def wP (P:Program) (w0:World) (ro:Option Nat) (x:Code) (Q:Exit->bY->Prop) (s:bY):Prop:=
 ∀σ a w,IZ w0 σ ro s a w->∀(b:Frame) (k:List Item) (cs:List Frame),b.roundOf=(qX σ ro).round->(qX σ ro).fn b.fn->(qX σ ro).room (cs.length+1+0)->
  ∃e a' w',(∃s' σ',Q e s'/\Came w0 σ ro s w σ' s' a' w')/\ArrivesIn (Machine.fenced P (qX σ ro)) P (lone (b.atR a (.code x:: .inLoop x::k)) cs w) b k cs e a' w'
theorem wP.aw {x:Code} {Q:Exit->bY->Prop} {s:bY} (h:wP P w0 ro x Q s):AW P w0 ro (.loop x) Q s:=fun σ a w m b k cs hro hb hr=>by
 obtain⟨e,a',w',hq,harr⟩:=h σ a w m b k cs hro hb hr
 exact⟨e,a',w',hq, .of_steps (.one (fenced_calm hb hr rfl) stepR_loop) harr⟩
theorem wP.step {x:Code} {Q:Exit->bY->Prop} {s:bY} (h:AW P w0 ro x (thenS (wP P w0 ro x Q) Q) s):wP P w0 ro x Q s:=fun σ a w m b k cs hro hb hr=>by
 obtain⟨e,a2,w2,⟨s2,σ2,hq,hk⟩,harr⟩:=h σ a w m b (.inLoop x::k) cs hro hb hr
 cases e with
 | normal=>
  have hf:=Le hk.post.ext m.loc.rl
  obtain⟨e3,a3,w3,⟨s3,σ3,hq3,hk3⟩,JR⟩:=hq σ2 a2 w2 hk.sim b k cs (by rw [hf];exact hro) (by rw [hf];exact hb) (by rw [hf];exact hr)
  rw [hf] at JR
  exact⟨e3,a3,w3,⟨s3,σ3,hq3,hk.trans hk3⟩, .of_steps (StepsIn.trans harr (.one (fenced_calm hb hr rfl) stepR_inLoop)) JR⟩
 | exit id=>exact⟨_,a2,w2,⟨s2,σ2,hq,hk⟩, .pass (x:= .inLoop x) rfl (fun _ _=> .inl (by simp)) harr⟩
 | goto l=>exact⟨_,a2,w2,⟨s2,σ2,hq,hk⟩, .pass (x:= .inLoop x) rfl (fun _ _=> .inl (by simp)) harr⟩
 | ret=>exact⟨_,a2,w2,⟨s2,σ2,hq,hk⟩, .pass (x:= .inLoop x) rfl (fun _ _=> .inl (by simp)) harr⟩
 | panic ch=>exact⟨_,a2,w2,⟨s2,σ2,hq,hk⟩, .pass (x:= .inLoop x) rfl (fun _ _=> .inl (by simp)) harr⟩
 | outgrown=>exact⟨_,a2,w2,⟨s2,σ2,hq,hk⟩, .pass (x:= .inLoop x) rfl (fun _ _=> .inl (by simp)) harr⟩
end
end Go.AM
namespace Go.AM
open Go Go.RowKit
section
variable {P:Program} {w0:World} {ro:Option Nat}
def JS (P:Program) (w0:World) (ro:Option Nat) (o:Oper) (s:bY) (K:AV->Mem->Nat->Prop):Prop:=
 ∀σ a w,IZ w0 σ ro s a w->∀(next:Act->World->Prop) (Q:Exit->Act->World->Prop),
  (∀v g' N' σ' w' x,K v g' N'->Post w0 σ s.g s.N w σ' g' N' w'->af σ' N' v x->next (a.put o.dst x) w')->o.wpIn (qX σ ro) 0 P a w next Q
theorem JS.mono {o:Oper} {s:bY} {K K':AV->Mem->Nat->Prop} (h:JS P w0 ro o s K) (hk:∀v g N,K v g N->K' v g N):JS P w0 ro o s K':=fun σ a w m next Q hn=>
 h σ a w m next Q fun v g' N' σ' w' x hv=>hn v g' N' σ' w' x (hk _ _ _ hv)
theorem fI {σ:aZ} {N:Nat}:af σ N .un undef:=⟨#[],rfl,rfl⟩
theorem JS.plain {md:Md} {o:Oper} {s:bY} {K:AV->Mem->Nat->Prop} {c:aS} {v:AV} {e:Ef} (h:rZ P md s.t o s.g s.N=some (c,v,e)) (hc:c.ok) (hk:K v (e.mem s.g s.N) (e.TL s.N)):JS P w0 ro o s K:=fun σ a w m next Q hn=>by
 refine⟨fun _ _=>trivial,?_⟩
 rw [Oper.semAt_eq _ _ _ (fun q hq=>by simp [rZ,hq] at h)]
 obtain⟨x,w',σ',hrun,hp,_,hx⟩:=JQ m.rel m.base m.loc.t h hc
 rw [hrun]
 rcases hx with⟨y,rfl,hr⟩ | ⟨rfl,rfl⟩
 ·exact hn _ _ _ σ' w' y hk hp hr
 ·exact hn _ _ _ σ' w' undef hk hp fI
theorem oM {o:Oper} {a:Act} {w:World} {g:Operand} {args:Array Operand} {ts:Array TypeId} {fn:Fn} {vs us:Array Value} (ho:o.op= .call {callee:= .value g,args,argTypes:=ts}) (hg:a.eval g= .func fn vs us):
  (execOp a.eval o).run P w=(invoke (.fn fn us) (vs++args.map a.eval)).run P w:=by
 simp [execOp,ho,resolve,hg,Deferred.ofValue]
def Goes (P:Program) (f:FuncId):Prop:=∀(args:Array Value) (w:World),(callFunc f args).run P w= .ok (.enter f args) w
theorem Rq {f:FuncId} {fn:Func} {c:Code} (hf:P.funcs[f]?=some fn) (hname:(fn.name== "runtime.NumGoroutine")=false) (hb:fn.body=some c):Goes P f:=by
 intro args w
 have h1:fn.name≠ "runtime.NumGoroutine" :=by simpa using hname
 simp [callFunc,hf,h1,hb,mark]
theorem sN {σ:aZ} {N:Nat} {t:List AV} {a:Act} (ht:ai σ N t a.tmps.toList) {fs cs:List AV} {vs us:Array Value} (hf:ai σ N fs vs.toList) (hc:ai σ N cs us.toList) (args:Array Operand):
  ai σ N (fs++args.toList.map (ev t)++cs) ((vs++args.map a.eval)++us).toList:=by
 have:=(hf.append (nu ht args.toList)).append hc
 simpa using this
theorem JS.call {o:Oper} {s:bY} {K:AV->Mem->Nat->Prop} {g:Operand} {args:Array Operand} {ts:Array TypeId} {f:FuncId} {fs cs:List AV} (ho:o.op= .call {callee:= .value g,args,argTypes:=ts})
  (hg:ev s.t g= .fn (.func f) fs cs) (hgo:Goes P f) (h:jC P w0 f (fs++args.toList.map (ev s.t)++cs) s.g s.N K):JS P w0 ro o s K:=fun σ a w m next Q hn=>by
 have hv:=aN m.loc.t g
 rw [hg] at hv
 simp only [af,aZ.fn] at hv
 obtain⟨_,vs,us,hv,hf,hc⟩:=hv
 refine⟨fun _ _=>trivial,?_⟩
 rw [Oper.semAt_eq _ _ _ (fun q hq=>by rw [ho] at hq;cases hq),oM ho hv]
 rw [show(invoke (.fn (.func f) us) (vs++args.map a.eval)).run P w= .ok (.enter f ((vs++args.map a.eval)++us)) w from hgo _ w]
 refine⟨by simp [Fence.wide],?_⟩
 refine CallsIn.mono (R:=fun e w'=>∃v r g' N' σ',e= .returned v/\K r g' N'/\Post w0 σ s.g s.N w σ' g' N' w'/\af σ' N' r v) (h σ w _ (sN m.loc.t hf hc args) m.rel m.base) ?_
 rintro e w' ⟨v,r,g',N',σ',rfl,hk,hp,hr⟩
 exact hn r g' N' σ' w' v hk hp hr
theorem JS.ext {o:Oper} {s:bY} {K:AV->Mem->Nat->Prop} {g:Operand} {args:Array Operand} {ts:Array TypeId} {f:FuncId} {fs cs:List AV} {x:XK} {v:AV} (ho:o.op= .call {callee:= .value g,args,argTypes:=ts})
  (hg:ev s.t g= .fn (.func f) fs cs) (hx:C8 P f x) (h:WA x (fs++args.toList.map (ev s.t)++cs)=some v) (hk:K v s.g s.N):JS P w0 ro o s K:=fun σ a w m next Q hn=>by
 have hv:=aN m.loc.t g
 rw [hg] at hv
 simp only [af,aZ.fn] at hv
 obtain⟨_,vs,us,hv,hf,hc⟩:=hv
 refine⟨fun _ _=>trivial,?_⟩
 rw [Oper.semAt_eq _ _ _ (fun q hq=>by rw [ho] at hq;cases hq),oM ho hv]
 obtain⟨y,hy,hrun⟩:=l5 (P:=P) (w:=w) h (sN m.loc.t hf hc args)
 rcases hrun with hrun | hrun
 ·rw [show(invoke (.fn (.func f) us) (vs++args.map a.eval))=callFunc f ((vs++args.map a.eval)++us) from rfl,KZ hx hrun]
  exact hn v _ _ σ w y hk (Post.refl m.rel m.base) hy
 ·rw [show(invoke (.fn (.func f) us) (vs++args.map a.eval))=callFunc f ((vs++args.map a.eval)++us) from rfl,KZ hx hrun]
  exact hn v _ _ σ w.drew y hk (Post.drew m.rel m.base) hy
noncomputable def fG (ops:Array Oper) (t:List AV) (o:Oper):Option Bool:=match o.guard with
 | none=>some true
 | some (j,want)=>match (ops[j]?).bind (·.dst) with
  | some d=>match slot t d with
   | .b (some b)=>some (b==want)
   | .aF _=>some false
   | _=>none
  | none=>none
theorem dS {σ:aZ} {N:Nat} {ops:Array Oper} {t:List AV} {a:Act} (ht:ai σ N t a.tmps.toList) {o:Oper} {b:Bool} (h:fG ops t o=some b):Region.wanted o (yielded ops a.tmps)=b:=by
 unfold fG at h
 unfold Region.wanted
 split at h
 ·rename_i hg
  injection h with h
  rw [hg];exact h
 ·rename_i j want hg
  rw [hg]
  simp only
  split at h
  ·rename_i d hd
   have hs:af σ N (slot t d) (a.tmps.getD d undef):=aN ht (.tmp d)
   unfold yielded
   rw [hd]
   simp only [Option.bind_some]
   split at h
   ·rename_i b' hb
    injection h with h;subst h
    rw [hb] at hs
    simp only [af] at hs
    have:a.tmps[d]?=some (.bool b'):=by
     cases e:a.tmps[d]? with
     | none=>simp [Array.getD_eq_getD_getElem?,e,undef] at hs
     | some v=>simpa [Array.getD_eq_getD_getElem?,e] using hs
    rw [this]
    cases b'<;>cases want<;>rfl
   ·rename_i vs hb
    injection h with h;subst h
    rw [hb] at hs
    simp only [af] at hs
    obtain⟨us,hs,_⟩:=hs
    cases e:a.tmps[d]? with
    | none=>rfl
    | some v=>
     have:v= .tuple us:=by simpa [Array.getD_eq_getD_getElem?,e] using hs
     rw [this];rfl
   ·cases h
  ·cases h
def vT (P:Program) (w0:World) (ro:Option Nat) (ops:Array Oper) (Q:bY->Prop):List Nat->bY->Prop
 | [],s=>Q s
 | i::l,s=>match ops[i]? with
  | none=>vT P w0 ro ops Q l s
  | some o=>
   (fG ops s.t o≠some false->JS P w0 ro o s fun v g N=>vT P w0 ro ops Q l ⟨eG s.t o.dst v,s.d,g,N⟩)/\
   (fG ops s.t o≠some true->vT P w0 ro ops Q l {s with t:=eG s.t o.dst .un})
theorem Lf {σ:aZ} {N:Nat} {ops:Array Oper} {t:List AV} {a:Act} (ht:ai σ N t a.tmps.toList) (o:Oper):(Region.wanted o (yielded ops a.tmps)=true->fG ops t o≠some false)/\(Region.wanted o (yielded ops a.tmps)≠true->fG ops t o≠some true):=
 ⟨fun h e=>(by rw [dS ht e] at h;cases h),fun h e=>h (dS ht e)⟩
theorem vT.sound {ops:Array Oper} {Q:bY->Prop} {s:bY} {σ:aZ} {w:World} {R:Exit->Act->World->Prop} (hl:∀l,ro=some l->l < s.N) (hR:∀s' σ' a' w',Q s'->Came w0 σ ro s w σ' s' a' w'->R .normal a' w'):
  ∀(l:List Nat) (s1:bY) (σ1:aZ) (a1:Act) (w1:World),vT P w0 ro ops Q l s1->Came w0 σ ro s w σ1 s1 a1 w1->wpOpsIn (qX σ ro) 0 P ops R l a1 w1
 | [],s1,σ1,a1,w1,h,c=>hR s1 σ1 a1 w1 h c
 | i::l,s1,σ1,a1,w1,h,c=>by
  unfold vT at h
  unfold wpOpsIn
  cases ho:ops[i]? with
  | none=>
   simp only [ho] at h ⊢
   exact vT.sound hl hR l s1 σ1 a1 w1 h c
  | some o=>
   simp only [ho] at h ⊢
   obtain⟨h1,h2⟩:=h
   obtain⟨q1,q2⟩:=Lf (ops:=ops) c.loc.t o
   by_cases hw:Region.wanted o (yielded ops a1.tmps)=true
   ·rw [if_pos hw]
    have hf:=Le c.post.ext hl
    rw [<- hf]
    refine h1 (q1 hw) σ1 a1 w1 c.sim _ _ fun v g' N' σ' w' x hv hp hx=>?_
    rw [hf]
    refine vT.sound hl hR l _ σ' _ w' hv (c.trans ⟨?_,hp⟩)
    have l2:Loc σ' ro ⟨s1.t,s1.d,g',N'⟩ a1:=Loc.ext (g:=s1.g) hp.ext c.loc
    exact l2.put hx o.dst
   ·rw [if_neg hw]
    refine⟨fun _ _=>trivial,?_⟩
    refine vT.sound hl hR l _ σ1 _ w1 (h2 (q2 hw)) ⟨c.loc.put fI o.dst,c.post⟩
theorem AW.region {ops:Array Oper} {id:Nat} {Q:Exit->bY->Prop} {s:bY} (h:vT P w0 ro ops (Q .normal) (List.range ops.size) s):AW P w0 ro (.region id ops false) Q s:=fun σ a w m=>
 wpIn_region (vT.sound (s:=s) (w:=w) (σ:=σ) m.loc.rl (fun s' σ' a' w' q c=>⟨s',σ',q,c⟩) _ s σ a w h m.came)
def sO (tm:Array Value):ResultVar->Sem Value
 | .tmp t=>pure (tm.getD t undef)
 | .cell a t=>do loadVar t (<- asAddr (tm.getD a undef))
theorem Db (fn:Func) (tm:Array Value):results fn tm=(do
  let vs <- fn.results.mapM (sO tm)
  pure (if h:vs.size=1 then vs[0] else .tuple vs)):=by
 unfold results
 congr 1
theorem lN {σ:aZ} {g:Mem} {N:Nat} {w:World} (r:eF σ g N w) {t:List AV} {tm:Array Value} (ht:ai σ N t tm.toList):∀{l:List ResultVar} {c:aS} {vs:List AV},IW P t g l=some (c,vs)->c.ok->
  ∃us:List Value,ai σ N vs us/\(l.mapM (sO tm)).run P w= .ok us w
 | [],c,vs,h,_=>by
  simp only [IW,Option.some.injEq,Prod.mk.injEq] at h
  obtain⟨rfl,rfl⟩:=h
  exact⟨[],by simp [ai],by simp⟩
 | x::l,c,vs,h,hc=>by
  simp only [IW] at h
  split at h
  ·cases h
  ·rename_i c0 vs0 h0
   have hget:∀i,af σ N (slot t i) (tm.getD i undef):=fun i=>by
    rw [dR]
    have:=ht.getD i undef
    simpa using this
   cases x with
   | tmp i=>
    simp only [Option.some.injEq,Prod.mk.injEq] at h
    obtain⟨rfl,rfl⟩:=h
    obtain⟨us,h1,h2⟩:=lN r ht h0 hc
    exact⟨_::us,⟨_,_,rfl,hget i,h1⟩,by simp only [List.mapM_cons,sO,Sem.run_bind,Sem.run_pure,Result.andThen_ok,h2]⟩
   | cell a ty=>
    simp only at h
    split at h
    ·rename_i c1 v hl
     simp only [Option.some.injEq,Prod.mk.injEq] at h
     obtain⟨rfl,rfl⟩:=h
     obtain⟨k1,k2⟩:=aS.aU.1 hc
     obtain⟨us,h1,h2⟩:=lN r ht h0 k2
     obtain⟨A,u,e1,hu,hr⟩:=M5 r hl k1 (hget a)
     exact⟨u::us,⟨_,_,rfl,hu,h1⟩,by simp only [List.mapM_cons,sO,e1,asAddr,Sem.run_bind,Sem.run_pure,Result.andThen_ok,hr,h2]⟩
    ·cases h
def eQ (g:Mem):List Nat->Mem
 | []=>g
 | d::l=>eQ (Mem.del g d) l
theorem Lg {σ:aZ} {N:Nat} {vs:List AV} {us:Array Value} (h:ai σ N vs us.toList):af σ N (Sl vs) (if h:us.size=1 then us[0] else .tuple us):=by
 unfold Sl
 split
 ·rename_i v
  simp only [ai] at h
  obtain⟨u,q,e,hu,rfl⟩:=h
  obtain rfl:us=#[u]:=Array.toList_inj.1 e
  simpa using hu
 ·rename_i hne
  have hl:=h.length
  rw [dif_neg]
  ·exact⟨us,rfl,h⟩
  ·intro e
   cases vs with
   | nil=>simp at hl;omega
   | cons v vs=>
    cases vs with
    | nil=>exact hne v rfl
    | cons _ _=>simp at hl;omega
theorem Sw {g:Mem} {r:Nat} (hr:g r=some .ng):∀d c ro,g d=some (.cells c ro)->Mem.del g r d=some (.cells c ro):=by
 intro d c ro h
 unfold Mem.del
 rw [if_neg]
 ·exact h
 ·intro e;subst e;rw [hr] at h;cases h
theorem FT {t:List AV} {g g':Mem} (hg:∀d c ro,g d=some (.cells c ro)->g' d=some (.cells c ro)):∀{l:List ResultVar} {q:aS×List AV},IW P t g l=some q->IW P t g' l=some q
 | [],q,h=>h
 | x::l,q,h=>by
  simp only [IW] at h ⊢
  split at h
  ·cases h
  ·rename_i c0 vs0 h0
   rw [FT hg h0]
   cases x with
   | tmp i=>exact h
   | cell a ty=>
    simp only at h ⊢
    split at h
    ·rename_i c1 v hl
     rw [M7 hg hl]
     exact h
    ·cases h
theorem jD {fn:Func} {t:List AV} {tm:Array Value} {Q:AV->Mem->Nat->Prop} {N:Nat} {w0:World} {σ:aZ} {g0:Mem} {N0:Nat} {wS:World} {σS:aZ}:∀(d:List Nat) (g:Mem) (w:World),ai σ N t tm.toList->Post w0 σS g0 N0 wS σ g N w->(∀r∈d,r < N)->d.Nodup->(∀r∈d,g r=some .ng)->
  ∀{c:aS} {vs:List AV},IW P t g fn.results.toList=some (c,vs)->c.ok->Q (Sl vs) (eQ g d) N->
  LeavesInM Fence.wide 0 P fn tm (fun e w'=>∃v r g' N' σ',e= .returned v/\Q r g' N'/\Post w0 σS g0 N0 wS σ' g' N' w'/\af σ' N' r v) (marks σ d) .returning w
 | [],g,w,ht,hp,_,_,_,c,vs,hr,hc,hq=>by
  obtain⟨us,h1,h2⟩:=lN hp.rel ht hr hc
  have hm:(results fn tm).run P w= .ok (if h:us.toArray.size=1 then us.toArray[0] else .tuple us.toArray) w:=by
   rw [Db,Array.mapM_eq_mapM_toList]
   simp [h2]
  refine⟨_,hm,_,Sl vs,g,N,σ,rfl,hq,hp,?_⟩
  exact Lg (us:=us.toArray) (by simpa using h1)
 | r::d,g,w,ht,hp,hlt,hnd,hg,c,vs,hr,hc,hq=>by
  refine⟨by simp, .inl ⟨σ.at_ r,?_⟩⟩
  have hgr:=hg r (by simp)
  obtain⟨_,O,hO,rfl⟩:=hp.rel.ob r _ hgr
  have hk:(Instr.takeDeferred (σ.at_ r)).run P w= .ok [] {w with heap:=w.heap.setIfInBounds (σ.at_ r) (.deferred none)}:=by
   exact run_takeDeferred hO
  have hlt':=(Array.getElem?_eq_some_iff.1 hO).1
  have hp2:=hp.trans (Post.spoil (w':={w with heap:=w.heap.setIfInBounds (σ.at_ r) (.deferred none)}) hp.rel hp.base r .ng hgr rfl (by simp) (fun k hk=>by simp [Ne.symm hk]) rfl rfl rfl)
  refine⟨_,rfl,hk,?_⟩
  have Us:=(List.nodup_cons.1 hnd)
  refine jD d _ _ ht hp2 (fun q hq'=>hlt q (by simp [hq'])) Us.2 (fun q hq'=>?_) (FT (Sw hgr) hr) hc hq
  unfold Mem.del
  rw [if_neg (by intro e;subst e;exact Us.1 hq')]
  exact hg q (by simp [hq'])
end
end Go.AM
namespace Go.AM
open Go Go.RowKit
section
variable {P:Program} {w0:World} {ro:Option Nat}
theorem jC.qF {f:FuncId} {fn:Func} {c:Code} {args:List AV} {g:Mem} {N:Nat} {Q:AV->Mem->Nat->Prop} (hf:P.funcs[f]?=some fn) (hb:fn.body=some c)
  (h:AW P w0 none c (fun e s=>(e= .normal\/e= .ret)/\s.d.Nodup/\(∀r∈s.d,s.g r=some .ng)/\∃c vs,IW P s.t s.g fn.results.toList=some (c,vs)/\c.ok/\Q (Sl vs) (eQ s.g s.d) s.N)
   ⟨args++List.replicate (fn.ntmps - args.length) .un,[],g,N⟩):jC P w0 f args g N Q:=fun σ w vs ha hr hbs=>by
 refine callsIn_of_wp_marks hf hb trivial ?_
 have hl:=ha.length
 have hun:∀n,ai σ N (List.replicate n .un) (Array.replicate n undef).toList:=fun n=>by
  rw [Array.toList_replicate]
  induction n with
  | zero=>simp [ai]
  | succ n ih=>exact⟨undef,_,rfl,fI,ih⟩
 have m:IZ w0 σ none ⟨args++List.replicate (fn.ntmps - args.length) .un,[],g,N⟩ {tmps:=vs++Array.replicate (fn.ntmps - vs.size) undef,defers:=[]} w:=by
  refine⟨⟨?_,rfl,(fun _ h=>by cases h),(fun _ h=>by cases h)⟩,hr,hbs⟩
  have e:vs.size=args.length:=by simpa using hl.symm
  rw [e]
  simpa using ha.append (hun (fn.ntmps - args.length))
 refine wpIn_mono (h σ _ w m) ?_
 rintro e a' w' ⟨s',σ',⟨he,hnd,hd,c,us,hres,hc,hq⟩,k⟩
 have:=jD (fn:=fn) s'.d s'.g w' k.loc.t k.post k.loc.dl hnd hd hres hc hq
 rcases he with rfl | rfl
 ·show LeavesInM _ _ _ _ _ _ a'.defers _ _
  rw [k.loc.d];exact this
 ·show LeavesInM _ _ _ _ _ _ a'.defers _ _
  rw [k.loc.d];exact this
theorem dN {σ:aZ} {g:Mem} {N:Nat} {w:World} {l:Nat} {r:Fx} (h:eF σ g N w) (hl:g l=some (.loop r)):l < N/\r.defers < N/\∃fn tm,w.heap[σ.at_ l]?=some (.loop {state:=r.state,pending:=r.pending,fn,tmps:=tm,params:=r.params,assign:=r.assign,body:=r.body,defers:=σ.at_ r.defers})/\ai σ N r.tmps tm.toList:=by
 obtain⟨hN,O,hO,hd,fn,tm,rfl,ht⟩:=h.ob l _ hl
 exact⟨hN,hd,fn,tm,hO,ht⟩
theorem jO {σ:aZ} {g:Mem} {N:Nat} {w:World} {l:Nat} {r:Fx} (h:eF σ g N w) (b:Base w0 σ g w) (hl:g l=some (.loop r)) {fn:FuncId} {tm:Array Value}
  (ht:ai σ N r.tmps tm.toList) (st:LoopState) (j:Option Code):
  Post w0 σ g N w σ (Mem.set g l (.loop {r with state:=st,pending:=j})) N (w.putObj (σ.at_ l) (.loop {state:=st,pending:=j,fn,tmps:=tm,params:=r.params,assign:=r.assign,body:=r.body,defers:=σ.at_ r.defers})):=by
 have hlt:=h.wI hl
 exact Post.set h b l _ _ _ hl rfl ⟨(dN h hl).2.1,fn,tm,rfl,ht⟩ (by simp) (fun k hk=>World.putObj_heap_other hk) (World.putObj_heap_same hlt) rfl rfl rfl
def I1 (P:Program) (w0:World) (ro:Option Nat) (Q:Exit->bY->Prop) (t:List AV) (d:List Nat) (l:Nat) (_:AV) (g:Mem) (N:Nat):Prop:=
 ∃r,g l=some (.loop r)/\r.state≠ .busy/\match r.pending with
  | none=>Q .normal ⟨t,d,Mem.set g l (.loop {r with state:= .exhausted}),N⟩
  | some c=>AW P w0 ro c Q ⟨t,d,Mem.set g l (.loop {r with state:= .exhausted}),N⟩
theorem l6 {g:Operand} {ps:Array Tmp} {assign body:Code} {Q:Exit->bY->Prop} {s:bY} {f:FuncId} {fs cs:List AV} {d:List Nat} {l:Nat} {g1:Mem} {N1:Nat} (hg:ev s.t g= .fn (.func f) fs cs) (hgo:Goes P f)
  (hent:∀σ a w,IZ w0 σ ro s a w->∀fn:FuncId,∃σ1 w1 mark,(Instr.enterLoop fn a.tmps ps assign body (qX σ ro).round).run P w= .ok (σ1.at_ l,mark) w1/\Post w0 σ s.g s.N w σ1 g1 N1 w1/\mark++a.defers=marks σ1 d/\(∀r∈d,r < N1)/\l < N1)
  (h:jC P w0 f (fs++[.fn (.yield l) [] []]++cs) g1 N1 (I1 P w0 ro Q s.t d l)):AW P w0 ro (.rangeFunc g ps assign body) Q s:=fun σ a w m=>by
 have hv:=aN m.loc.t g
 rw [hg] at hv
 simp only [af,aZ.fn] at hv
 obtain⟨_,vs,us,hv,hfs,hcs⟩:=hv
 refine wpIn_rangeFunc fun fn _=>?_
 obtain⟨σ1,w1,mark,he,hp,hmk,hdl,hl⟩:=hent σ a w m fn
 have hres:(resolve a.eval (rangeCall g (σ1.at_ l)) 0).run P w1= .ok {target:= .fn (.func f) us,args:=vs++#[Value.func (.yield (σ1.at_ l)) #[] #[]]} w1:=by
  have e:(#[Operand.const (Value.func (.yield (σ1.at_ l)) #[] #[])].map a.eval)=#[Value.func (.yield (σ1.at_ l)) #[] #[]]:=by simp [Act.eval]
  show(Deferred.ofValue (a.eval g) (#[Operand.const (Value.func (.yield (σ1.at_ l)) #[] #[])].map a.eval)).run P w1=_
  rw [hv,e];rfl
 refine⟨σ1.at_ l,mark,w1,{target:= .fn (.func f) us,args:=vs++#[Value.func (.yield (σ1.at_ l)) #[] #[]]},w1,f,(vs++#[Value.func (.yield (σ1.at_ l)) #[] #[]])++us,w1,he,hres,fun _ _=>trivial,hgo ((vs++#[Value.func (.yield (σ1.at_ l)) #[] #[]])++us) w1,by simp [Fence.wide],?_⟩
 have hargs:ai σ1 N1 (fs++[.fn (.yield l) [] []]++cs) ((vs++#[Value.func (.yield (σ1.at_ l)) #[] #[]])++us).toList:=by
  have hy:ai σ1 N1 [.fn (.yield l) [] []] [Value.func (.yield (σ1.at_ l)) #[] #[]]:=ai.one ⟨hl,#[],#[],rfl,rfl,rfl⟩
  have:=((ai.ext hp.ext _ _ hfs).append hy).append (ai.ext hp.ext _ _ hcs)
  simpa using this
 refine CallsIn.mono (R:=fun e w'=>∃v r g' N' σ',e= .returned v/\I1 P w0 ro Q s.t d l r g' N'/\Post w0 σ1 g1 N1 w1 σ' g' N' w'/\af σ' N' r v) (h σ1 w1 _ hargs hp.rel hp.base) ?_
 rintro e w2 ⟨v,r,g2,N2,σ2,rfl,⟨rr,hgl,hst,hend⟩,hp2,_⟩
 obtain⟨_,hdf,WJ,X0,hO,ht2⟩:=dN hp2.rel hgl
 have hat:σ2.at_ l=σ1.at_ l:=hp2.ext.at_ l hl
 have hp3:=hp2.trans (jO hp2.rel hp2.base hgl (fn:=WJ) ht2 .exhausted rr.pending)
 rw [hat] at hp3 hO
 refine⟨rr.pending,_,run_endLoop hO hst,?_⟩
 have Nn:Came w0 σ ro s w σ2 ⟨s.t,d,Mem.set g2 l (.loop {rr with state:= .exhausted}),N2⟩ {a with defers:=mark++a.defers} (w2.putObj (σ1.at_ l) (.loop {state:= .exhausted,pending:=rr.pending,fn:=WJ,tmps:=X0,params:=rr.params,assign:=rr.assign,body:=rr.body,defers:=σ2.at_ rr.defers})):=by
  have hp4:=hp.trans hp3
  refine⟨⟨ai.ext hp4.ext _ _ m.loc.t,?_,fun r hr=>Nat.lt_of_lt_of_le (hdl r hr) hp2.ext.le,fun q hq=>Nat.lt_of_lt_of_le (m.loc.rl q hq) hp4.ext.le⟩,hp4⟩
  show mark++a.defers=marks σ2 d
  rw [hmk]
  exact List.map_congr_left fun r hr=>by rw [hp2.ext.at_ r (hdl r hr)]
 obtain⟨st,pd,tms,prs,asn,bdy,dfs⟩:=rr
 cases pd with
 | none=>exact⟨_,σ2,hend,Nn⟩
 | some c=>exact AW.behind hend Nn m.loc.rl
def fH (t:List AV) (ps:Array Tmp) (assign body:Code) (df:Nat):Fx:={state:= .ready,pending:=none,tmps:=t,params:=ps,assign,body,defers:=df}
theorem AW.zD {g:Operand} {ps:Array Tmp} {assign body:Code} {Q:Exit->bY->Prop} {s:bY} {f:FuncId} {fs cs:List AV} (hg:ev s.t g= .fn (.func f) fs cs) (hgo:Goes P f)
  (h:jC P w0 f (fs++[.fn (.yield (s.N+1)) [] []]++cs) (Mem.push (Mem.push s.g s.N .ng) (s.N+1) (.loop (fH s.t ps assign body s.N))) (s.N+1+1) (I1 P w0 none Q s.t (s.N::s.d) (s.N+1))):
  AW P w0 none (.rangeFunc g ps assign body) Q s:=l6 hg hgo (fun σ a w m fn=>by
 have p1:=Post.push m.rel m.base m.rel.fresh .ng (.deferred (some [])) 0 rfl
 obtain⟨a1,_⟩:=iZ σ s.N w.heap.size 0
 have p2:=Post.push p1.rel p1.base p1.rel.fresh (.loop (fH s.t ps assign body s.N)) (.loop {state:= .ready,pending:=none,fn,tmps:=a.tmps,params:=ps,assign,body,defers:=w.heap.size}) 0
  ⟨(by show s.N < s.N+1+1;omega),fn,a.tmps,(by
   have hx:=Ext.ins (σ.ins s.N w.heap.size 0) (s.N+1) (w.alloc (.deferred (some []))).heap.size 0
   rw [show(fH s.t ps assign body s.N).defers=s.N from rfl,hx.at_ s.N (by omega),a1];rfl),ai.ext (p1.ext.trans (Ext.ins _ _ _ _)) _ _ m.loc.t⟩
 have hx:=Ext.ins (σ.ins s.N w.heap.size 0) (s.N+1) (w.alloc (.deferred (some []))).heap.size 0
 obtain⟨a2,_⟩:=iZ (σ.ins s.N w.heap.size 0) (s.N+1) (w.alloc (.deferred (some []))).heap.size 0
 refine⟨_,_,[{target:= .collected w.heap.size,args:=#[]}],?_,p1.trans p2,?_,?_,by omega⟩
 ·rw [a2]
  simpa using run_enterLoop_outer (P:=P) (w:=w) fn a.tmps ps assign body
 ·rw [m.loc.d]
  unfold marks
  rw [List.map_cons,hx.at_ s.N (by omega),a1]
  show _::_=_::_
  congr 1
  refine List.map_congr_left fun r hr=>?_
  rw [(p1.trans p2).ext.at_ r (m.loc.dl r hr)]
 ·intro r hr
  cases hr with
  | head=>omega
  | tail _ hr=>have:=m.loc.dl r hr;omega) h
theorem AW.Rs {l0:Nat} {g:Operand} {ps:Array Tmp} {assign body:Code} {Q:Exit->bY->Prop} {s:bY} {f:FuncId} {fs cs:List AV} {r0:Fx} (hg:ev s.t g= .fn (.func f) fs cs) (hgo:Goes P f) (hl:s.g l0=some (.loop r0))
  (h:jC P w0 f (fs++[.fn (.yield s.N) [] []]++cs) (Mem.push s.g s.N (.loop (fH s.t ps assign body r0.defers))) (s.N+1) (I1 P w0 (some l0) Q s.t s.d s.N)):
  AW P w0 (some l0) (.rangeFunc g ps assign body) Q s:=l6 hg hgo (fun σ a w m fn=>by
 obtain⟨hl0,hdf,fn0,tm0,hO,_⟩:=dN m.rel hl
 have hx:=Ext.ins σ s.N w.heap.size 0
 have p1:=Post.push m.rel m.base m.rel.fresh (.loop (fH s.t ps assign body r0.defers)) (.loop {state:= .ready,pending:=none,fn,tmps:=a.tmps,params:=ps,assign,body,defers:=σ.at_ r0.defers}) 0
  ⟨by show r0.defers < s.N+1;omega,fn,a.tmps,(by
   rw [show(fH s.t ps assign body r0.defers).defers=r0.defers from rfl,hx.at_ r0.defers hdf];rfl),ai.ext hx _ _ m.loc.t⟩
 obtain⟨a1,_⟩:=iZ σ s.N w.heap.size 0
 refine⟨_,_,[],?_,p1,?_,?_,by omega⟩
 ·rw [a1]
  exact run_enterLoop_inner (P:=P) (w:=w) hO fn a.tmps ps assign body
 ·rw [List.nil_append,m.loc.d]
  exact List.map_congr_left fun r hr=>by rw [hx.at_ r (m.loc.dl r hr)]
 ·intro r hr
  have:=m.loc.dl r hr;omega) h
noncomputable def qG (ps:List Tmp) (args:List AV) (t:List AV):List AV:=(ps.zip args).foldl (fun t p=>t.set p.1 p.2) t
theorem l7 {σ:aZ} {N:Nat}:∀(ps:List Tmp) {args:List AV} {vs:List Value} {t:List AV} {tm:Array Value},ai σ N args vs->ai σ N t tm.toList->ai σ N (qG ps args t) ((ps.zip vs).foldl (fun tm p=>tm.setIfInBounds p.1 p.2) tm).toList
 | [],args,vs,t,tm,_,ht=>by simpa [qG] using ht
 | p::ps,[],vs,t,tm,ha,ht=>by
  simp only [ai] at ha;subst ha
  simpa [qG] using ht
 | p::ps,x::args,vs,t,tm,ha,ht=>by
  simp only [ai] at ha
  obtain⟨v,q,rfl,h1,h2⟩:=ha
  simp only [qG,List.zip_cons_cons,List.foldl_cons]
  exact l7 ps h2 (t:=t.set p x) (tm:=tm.setIfInBounds p v) (by simpa using ht.set p h1)
def WK (l:Nat) (K:AV->Mem->Nat->Prop) (e:Exit) (s:bY):Prop:=
 ∃j r,Exit.jump e=some j/\s.g l=some (.loop r)/\K (.b (some j.isNone)) (Mem.set s.g l (.loop {r with state:=if j.isNone then .ready else .done,pending:=j})) s.N
theorem JS.yield {o:Oper} {s:bY} {K:AV->Mem->Nat->Prop} {g:Operand} {args:Array Operand} {ts:Array TypeId} {l:Nat} {r:Fx} (ho:o.op= .call {callee:= .value g,args,argTypes:=ts})
  (hg:ev s.t g= .fn (.yield l) [] []) (hl:s.g l=some (.loop r)) (hn:r.params.size=args.size)
  (h:AW P w0 (some l) r.assign (fun e s1=>e= .normal/\∃r1,s1.g l=some (.loop r1)/\r1.state= .ready/\AW P w0 (some l) r.body (WK l K) ⟨s1.t,s1.d,Mem.set s1.g l (.loop {r1 with state:= .busy}),s1.N⟩)
   ⟨qG r.params.toList (args.toList.map (ev s.t)) r.tmps,[],s.g,s.N⟩):JS P w0 ro o s K:=fun σ a w m next Q hnx=>by
 have hv:=aN m.loc.t g
 rw [hg] at hv
 simp only [af,ai,aZ.fn] at hv
 obtain⟨_,vs,us,hv,hvs,hus⟩:=hv
 obtain rfl:vs=#[]:=Array.toList_inj.1 (by simpa using hvs)
 obtain rfl:us=#[]:=Array.toList_inj.1 (by simpa using hus)
 obtain⟨hlN,_,fn,tm,hO,ht⟩:=dN m.rel hl
 refine⟨fun _ _=>trivial,?_⟩
 rw [Oper.semAt_eq _ _ _ (fun q hq=>by rw [ho] at hq;cases hq),oM ho hv]
 have hrun:(invoke (.fn (.yield (σ.at_ l)) #[]) (#[]++args.map a.eval)).run P w= .ok (.round (σ.at_ l) fn ((r.params.zip (args.map a.eval)).foldl (fun tmps (t,a)=>tmps.setIfInBounds t a) tm) r.assign r.body) w:=by
  rw [show(invoke (.fn (.yield (σ.at_ l)) #[]) (#[]++args.map a.eval))=Instr.yield (σ.at_ l) (#[]++args.map a.eval) from rfl,Array.empty_append]
  exact run_yield hO (by simp [hn])
 rw [hrun]
 refine⟨by simp [Fence.wide],?_⟩
 refine roundIn_of_wpIn (F:=qX σ ro) trivial ?_
 have hrel:=l7 r.params.toList (nu m.loc.t args.toList) ht
 have harr:((r.params.zip (args.map a.eval)).foldl (fun tmps (x:Tmp×Value)=>tmps.setIfInBounds x.1 x.2) tm).toList=((r.params.toList.zip (args.toList.map a.eval)).foldl (fun tm p=>tm.setIfInBounds p.1 p.2) tm).toList:=by
  rw [<- Array.foldl_toList]
  simp
 have m1:IZ w0 σ (some l) ⟨qG r.params.toList (args.toList.map (ev s.t)) r.tmps,[],s.g,s.N⟩ {tmps:=(r.params.zip (args.map a.eval)).foldl (fun tmps (x:Tmp×Value)=>tmps.setIfInBounds x.1 x.2) tm,defers:=[]} w:=
  ⟨⟨by rw [harr];exact hrel,rfl,(fun _ h=>by cases h),(fun q h=>by injection h with h;subst h;exact hlN)⟩,m.rel,m.base⟩
 refine wpIn_mono (h σ _ w m1) ?_
 rintro e a1 w1 ⟨s1,σ1,⟨rfl,r1,hl1,hst,hbody⟩,k1⟩
 have hat:σ1.at_ l=σ.at_ l:=k1.post.ext.at_ l hlN
 obtain⟨_,_,fn1,tm1,WL,ht1⟩:=dN k1.post.rel hl1
 have p2:=jO k1.post.rel k1.post.base hl1 (fn:=fn1) ht1 .busy r1.pending
 rw [hat] at WL p2
 refine⟨_,run_beginRound WL hst,?_⟩
 have k2:Came w0 σ (some l) ⟨qG r.params.toList (args.toList.map (ev s.t)) r.tmps,[],s.g,s.N⟩ w σ1 ⟨s1.t,s1.d,Mem.set s1.g l (.loop {r1 with state:= .busy}),s1.N⟩ a1 (w1.putObj (σ.at_ l) (.loop {state:= .busy,pending:=r1.pending,fn:=fn1,tmps:=tm1,params:=r1.params,assign:=r1.assign,body:=r1.body,defers:=σ1.at_ r1.defers})):=
  ⟨⟨k1.loc.t,k1.loc.d,k1.loc.dl,k1.loc.rl⟩,k1.post.trans p2⟩
 refine wpIn_mono (AW.behind hbody k2 (fun q h=>by injection h with h;subst h;exact hlN)) ?_
 rintro e2 a2 w2 ⟨s2,σ2,⟨j,r2,hj,hl2,hk⟩,k3⟩
 have hat2:σ2.at_ l=σ.at_ l:=k3.post.ext.at_ l hlN
 obtain⟨_,_,WJ,X0,hO2,ht2⟩:=dN k3.post.rel hl2
 have p4:=jO k3.post.rel k3.post.base hl2 (fn:=WJ) ht2 (if j.isNone then .ready else .done) j
 rw [hat2] at hO2 p4
 have hend:=run_endRound (P:=P) j hO2
 have hfin:=hnx _ _ _ σ2 _ _ hk (k3.post.trans p4) (Fz j.isNone)
 cases e2 with
 | normal=>injection hj with hj;subst hj;exact⟨_,_,hend,hfin⟩
 | ret=>injection hj with hj;subst hj;exact⟨_,_,hend,hfin⟩
 | exit i=>injection hj with hj;subst hj;exact⟨_,_,hend,hfin⟩
 | goto i=>injection hj with hj;subst hj;exact⟨_,_,hend,hfin⟩
 | panic c=>cases hj
 | outgrown=>cases hj
end
end Go.AM
namespace Go.AM
open Go Go.RowKit
section
variable {P:Program} {w0:World} {ro:Option Nat}
theorem BU {md:Md} {t t':List AV} {o:Oper} {g:Mem} {nx:Nat} (h:∀x∈o.op.operands.toList,ev t' x=ev t x):rZ P md t' o g nx=rZ P md t o g nx:=by
 obtain⟨dst,op,ty,pos,aft,gd⟩:=o
 simp only at h
 have hmap:∀ps:List (Nat×Operand),(∀p∈ps,ev t' p.2=ev t p.2)->ps.map (fun p=>(p.1,ev t' p.2))=ps.map (fun p=>(p.1,ev t p.2)):=fun ps hp=>List.map_congr_left fun p hq=>by rw [hp p hq]
 have hmap2:∀ps:List Operand,(∀p∈ps,ev t' p=ev t p)->ps.map (ev t')=ps.map (ev t):=fun ps hp=>List.map_congr_left fun p hq=>by rw [hp p hq]
 cases op with
 | build ty ps=>
  have:=hmap ps.toList fun p hp=>h p.2 (by simp [Op.operands];exact⟨p.1,by simpa using hp⟩)
  simp only [rZ,this]
 | buildSlice ty n ps=>
  have:=hmap ps.toList fun p hp=>h p.2 (by simp [Op.operands];exact⟨p.1,by simpa using hp⟩)
  simp only [rZ,this]
 | makeFunc fn fs cs=>
  have h1:=hmap2 fs.toList fun p hp=>h p (by simp [Op.operands];exact .inl (by simpa using hp))
  have h2:=hmap2 cs.toList fun p hp=>h p (by simp [Op.operands];exact .inr (by simpa using hp))
  simp only [rZ,h1,h2]
 | slice ty x lo hi mx=>
  have h0:=h x (by simp [Op.operands])
  have h1:lo.map (ev t')=lo.map (ev t):=by
   cases lo with
   | none=>rfl
   | some y=>simp [h y (by simp [Op.operands])]
  have h2:hi.map (ev t')=hi.map (ev t):=by
   cases hi with
   | none=>rfl
   | some y=>simp [h y (by simp [Op.operands])]
  cases mx<;>simp only [rZ,h0,h1,h2]
 | call c=>
  obtain⟨callee,args,ts⟩:=c
  cases callee with
  | builtin b=>
   have h1:=hmap2 args.toList fun p hp=>h p (by simp [Op.operands,Call.operands];simpa using hp)
   simp only [rZ,h1]
  | invoke r n=>rfl
  | value g=>rfl
 | pick a b c=>
  have h1:=h a (by simp [Op.operands])
  have h2:=h b (by simp [Op.operands])
  have h3:=h c (by simp [Op.operands])
  simp only [rZ,h1,h2,h3]
 | mapUpdate ty a b c=>
  have h1:=h a (by simp [Op.operands])
  have h2:=h b (by simp [Op.operands])
  have h3:=h c (by simp [Op.operands])
  simp only [rZ,h1,h2,h3]
 | insert ty a b c=>
  have h1:=h a (by simp [Op.operands])
  have h2:=h b (by simp [Op.operands])
  have h3:=h c (by simp [Op.operands])
  simp only [rZ,h1,h2,h3]
 | store ty a b=>simp only [rZ,h a (by simp [Op.operands]),h b (by simp [Op.operands])]
 | binOp op ty a b lz=>simp only [rZ,h a (by simp [Op.operands]),h b (by simp [Op.operands])]
 | makeSlice ty a b=>simp only [rZ,h a (by simp [Op.operands]),h b (by simp [Op.operands])]
 | indexAddr ty a b=>simp only [rZ,h a (by simp [Op.operands]),h b (by simp [Op.operands])]
 | lookup ty a b ok=>simp only [rZ,h a (by simp [Op.operands]),h b (by simp [Op.operands])]
 | move x=>simp only [rZ,h x (by simp [Op.operands])]
 | assign x=>simp only [rZ,h x (by simp [Op.operands])]
 | box ty x=>simp only [rZ,h x (by simp [Op.operands])]
 | load ty x=>simp only [rZ,h x (by simp [Op.operands])]
 | nilCheck x=>simp only [rZ,h x (by simp [Op.operands])]
 | unOp op ty x=>simp only [rZ,h x (by simp [Op.operands])]
 | convert a b x=>simp only [rZ,h x (by simp [Op.operands])]
 | fieldAddr s x f=>simp only [rZ,h x (by simp [Op.operands])]
 | field s x f=>simp only [rZ,h x (by simp [Op.operands])]
 | extract x i=>simp only [rZ,h x (by simp [Op.operands])]
 | makeMap ty r=>cases r<;>rfl
 | _=>rfl
structure Rec where
 i:Nat
 dst:Option Nat
 v:AV
 g':Mem
 qY:Nat->Bool
 lo:Nat
 hi:Nat
 kK:Nat->Bool
 look:Nat->Bool
 dom:Nat->Bool
 ch:Bool
def tF (f0:Nat->AV×Nat) (D:Nat->Bool):List Rec->Nat->AV×Nat
 | [],x=>f0 x
 | r::rs,x=>if D r.i=true/\r.dst=some x then (r.v,r.hi) else tF f0 D rs x
def mF (m0:Nat->Option ax×Nat) (D:Nat->Bool):List Rec->Nat->Option ax×Nat
 | [],d=>m0 d
 | r::rs,d=>
  if D r.i=true/\r.qY d=true then (r.g' d,r.hi)
  else if D r.i=true/\r.ch=true/\d < r.lo then ((mF m0 D rs d).1,r.hi)
  else mF m0 D rs d
def ou:Nat->Bool:=fun _=>true
structure jy (a b:Rec):Prop where
 ne:a.i≠b.i
 back:b.kK a.i=false
 dst:∀x,a.dst=some x->b.dst≠some x
 le:b.hi<=a.lo
 ch:a.ch=true->a.kK b.i=true
 look1:a.kK b.i=false->∀x,b.dst=some x->a.look x=false
 look2:a.kK b.i=false->∀x,a.dst=some x->b.look x=false
 dom1:a.kK b.i=false->∀d,b.qY d=true->a.dom d=false
 dom2:a.kK b.i=false->∀d,a.qY d=true->b.dom d=false
 qY:a.kK b.i=false->∀d,b.qY d=true->a.qY d=false
theorem Np {f0:Nat->AV×Nat} {D:Nat->Bool} {x:Nat}:∀{l rs:List Rec},(∀a∈l,D a.i=true->a.dst≠some x)->tF f0 D (l++rs) x=tF f0 D rs x
 | [],rs,_=>rfl
 | a::l,rs,h=>by
  simp only [List.cons_append,tF]
  rw [if_neg (fun e=>h a (by simp) e.1 e.2)]
  exact Np fun b hb=>h b (by simp [hb])
theorem Nq {m0:Nat->Option ax×Nat} {D:Nat->Bool} {d:Nat}:∀{l rs:List Rec},(∀a∈l,D a.i=true->a.qY d=false/\a.ch=false)->mF m0 D (l++rs) d=mF m0 D rs d
 | [],rs,_=>rfl
 | a::l,rs,h=>by
  simp only [List.cons_append,mF]
  rw [if_neg (fun e=>by rw [(h a (by simp) e.1).1] at e;cases e.2),if_neg (fun e=>by rw [(h a (by simp) e.1).2] at e;cases e.2.1)]
  exact Nq fun b hb=>h b (by simp [hb])
theorem Rt {f0:Nat->AV×Nat} {D:Nat->Bool} {r:Rec} (hD:∀j,r.kK j=true->D j=true) {x:Nat} (hx:r.look x=true):∀{rs:List Rec},(∀b∈rs,jy r b)->tF f0 D rs x=tF f0 ou rs x
 | [],_=>rfl
 | b::rs,h=>by
  simp only [tF,ou,true_and]
  have hb:=h b (by simp)
  have ih:=Rt (f0:=f0) hD hx (rs:=rs) fun c hc=>h c (by simp [hc])
  by_cases ha:r.kK b.i=true
  ·rw [hD _ ha]
   simp only [true_and]
   split
   ·rfl
   ·exact ih
  ·have ha':r.kK b.i=false:=by simpa using ha
   have hn:b.dst≠some x:=fun e=>by have:=hb.look1 ha' x e;rw [hx] at this;cases this
   rw [if_neg (fun e=>hn e.2),if_neg hn]
   exact ih
theorem Ru {m0:Nat->Option ax×Nat} {D:Nat->Bool} {r:Rec} (hD:∀j,r.kK j=true->D j=true) {d:Nat} (hd:r.dom d=true):∀{rs:List Rec},(∀b∈rs,jy r b)->(mF m0 D rs d).1=(mF m0 ou rs d).1
 | [],_=>rfl
 | b::rs,h=>by
  simp only [mF,ou,true_and]
  have hb:=h b (by simp)
  have ih:=Ru (m0:=m0) hD hd (rs:=rs) fun c hc=>h c (by simp [hc])
  by_cases ha:r.kK b.i=true
  ·rw [hD _ ha]
   simp only [true_and]
   split
   ·rfl
   ·split
    ·exact ih
    ·exact ih
  ·have ha':r.kK b.i=false:=by simpa using ha
   have hn:¬b.qY d=true:=fun e=>by have:=hb.dom1 ha' d e;rw [hd] at this;cases this
   rw [if_neg (fun e=>hn e.2),if_neg hn]
   split
   ·split
    ·exact ih
    ·exact ih
   ·split
    ·exact ih
    ·exact ih
theorem Ut {f0:Nat->AV×Nat} {D:Nat->Bool} {x n:Nat} (h0:(f0 x).2<=n):∀{rs:List Rec},(∀b∈rs,b.hi<=n)->(tF f0 D rs x).2<=n
 | [],_=>h0
 | b::rs,h=>by
  simp only [tF]
  split
  ·exact h b (by simp)
  ·exact Ut h0 fun c hc=>h c (by simp [hc])
theorem Uu {m0:Nat->Option ax×Nat} {D:Nat->Bool} {d n:Nat} (h0:(m0 d).2<=n):∀{rs:List Rec},(∀b∈rs,b.hi<=n)->(mF m0 D rs d).2<=n
 | [],_=>h0
 | b::rs,h=>by
  simp only [mF]
  split
  ·exact h b (by simp)
  ·split
   ·exact h b (by simp)
   ·exact Uu h0 fun c hc=>h c (by simp [hc])
def dU (D:Nat->Bool) (i:Nat):Nat->Bool:=fun j=>D j||j==i
theorem Rv {f0:Nat->AV×Nat} {D:Nat->Bool} {i x:Nat}:∀{rs:List Rec},(∀b∈rs,b.i≠i)->tF f0 (dU D i) rs x=tF f0 D rs x
 | [],_=>rfl
 | b::rs,h=>by
  have hb:dU D i b.i=D b.i:=by simp [dU,h b (by simp)]
  simp only [tF,hb]
  rw [Rv fun c hc=>h c (by simp [hc])]
theorem Rw {m0:Nat->Option ax×Nat} {D:Nat->Bool} {i d:Nat}:∀{rs:List Rec},(∀b∈rs,b.i≠i)->mF m0 (dU D i) rs d=mF m0 D rs d
 | [],_=>rfl
 | b::rs,h=>by
  have hb:dU D i b.i=D b.i:=by simp [dU,h b (by simp)]
  simp only [mF,hb]
  rw [Rw fun c hc=>h c (by simp [hc])]
theorem Lh {f0:Nat->AV×Nat} {D:Nat->Bool} {r:Rec} {x:Nat} (hr:D r.i=false) {e:List Rec} (he:∀b∈e,jy r b):∀{l:List Rec},(∀a∈l,jy a r)->tF f0 (dU D r.i) (l++r::e) x=if r.dst=some x then (r.v,r.hi) else tF f0 D (l++r::e) x
 | [],_=>by
  have h1:dU D r.i r.i=true:=by simp [dU]
  simp only [List.nil_append,tF,h1,hr,true_and,Bool.false_eq_true,false_and,if_false]
  rw [Rv fun b hb=>(he b hb).ne.symm]
 | a::l,h=>by
  have ha:=h a (by simp)
  have h1:dU D r.i a.i=D a.i:=by simp [dU,ha.ne]
  simp only [List.cons_append,tF,h1]
  rw [Lh hr he fun c hc=>h c (by simp [hc])]
  by_cases hx:r.dst=some x
  ·have hn:a.dst≠some x:=fun q=>ha.dst x q hx
   rw [if_pos hx,if_neg (fun q=>hn q.2)]
   simp [hx]
  ·simp only [hx,if_false]
theorem Li {m0:Nat->Option ax×Nat} {D:Nat->Bool} {r:Rec} {d:Nat} (hr:D r.i=false) {e:List Rec} (he:∀b∈e,jy r b):∀{l:List Rec},(∀a∈l,jy a r)->(∀a∈l,D a.i=true->a.kK r.i=false)->(∀a∈l,a.ch=false->∀d,a.qY d=true->a.lo<=d)->r.lo<=r.hi->
  mF m0 (dU D r.i) (l++r::e) d=if r.qY d=true then (r.g' d,r.hi) else if r.ch=true/\d < r.lo then ((mF m0 D (l++r::e) d).1,r.hi) else mF m0 D (l++r::e) d
 | [],_,_,_,_=>by
  have h1:dU D r.i r.i=true:=by simp [dU]
  simp only [List.nil_append,mF,h1,hr,true_and,Bool.false_eq_true,false_and,if_false]
  rw [Rw fun b hb=>(he b hb).ne.symm]
 | a::l,h,hc,hw,hlh=>by
  have ha:=h a (by simp)
  have h1:dU D r.i a.i=D a.i:=by simp [dU,ha.ne]
  simp only [List.cons_append,mF,h1]
  rw [Li hr he (fun c hc=>h c (by simp [hc])) (fun c hc'=>hc c (by simp [hc'])) (fun c hc'=>hw c (by simp [hc'])) hlh]
  by_cases hD:D a.i=true
  ·have hu:=hc a (by simp) hD
   have hch:¬a.ch=true:=fun q=>by rw [ha.ch q] at hu;cases hu
   by_cases ht:r.qY d=true
   ·have hn:¬a.qY d=true:=by rw [ha.qY hu d ht];simp
    simp [hD,ht,hn,hch]
   ·by_cases hta:a.qY d=true
    ·have hdn:¬(r.ch=true/\d < r.lo):=by
      rintro⟨q1,q2⟩
      have:=hw a (by simp) (by simpa using hch) d hta
      have:=ha.le
      omega
     simp [hD,ht,hta,hdn]
    ·simp [hD,ht,hta,hch]
  ·have hD':D a.i=false:=by simpa using hD
   simp only [hD',Bool.false_eq_true,false_and,if_false]
theorem look_eq {f0:Nat->AV×Nat} {D:Nat->Bool} {r:Rec} {l e:List Rec} (hr:D r.i=false) (oN:∀j,r.kK j=true->D j=true) (hl:∀a∈l,jy a r) (hla:∀a∈l,D a.i=true->a.kK r.i=false) (he:∀b∈e,jy r b) {x:Nat} (hx:r.look x=true):
  tF f0 D (l++r::e) x=tF f0 ou e x:=by
 rw [Np (fun a ha hD q=>by have:=(hl a ha).look2 (hla a ha hD) x q;rw [hx] at this;cases this)]
 simp only [tF,hr,Bool.false_eq_true,false_and,if_false]
 exact Rt oN hx he
theorem WM {m0:Nat->Option ax×Nat} {D:Nat->Bool} {r:Rec} {l e:List Rec} (hr:D r.i=false) (hl:∀a∈l,jy a r) (hla:∀a∈l,D a.i=true->a.kK r.i=false) {d:Nat} (hd:r.dom d=true):
  mF m0 D (l++r::e) d=mF m0 D e d:=by
 rw [Nq (fun a ha hD=>⟨?_,?_⟩)]
 ·simp only [mF,hr,Bool.false_eq_true,false_and,if_false]
 ·cases ht:a.qY d with
  | false=>rfl
  | true=>have:=(hl a ha).dom2 (hla a ha hD) d ht;rw [hd] at this;cases this
 ·cases hc:a.ch with
  | false=>rfl
  | true=>have:=(hl a ha).ch hc;rw [hla a ha hD] at this;cases this
theorem FU {m0:Nat->Option ax×Nat} {D:Nat->Bool} {r:Rec} {l e:List Rec} (hr:D r.i=false) (oN:∀j,r.kK j=true->D j=true) (hl:∀a∈l,jy a r) (hla:∀a∈l,D a.i=true->a.kK r.i=false) (he:∀b∈e,jy r b) {d:Nat} (hd:r.dom d=true) (h0:(m0 d).2<=r.lo):
  (mF m0 D (l++r::e) d).1=(mF m0 ou e d).1/\(mF m0 D (l++r::e) d).2<=r.lo:=by
 rw [WM hr hl hla hd]
 exact⟨Ru oN hd he,Uu h0 fun b hb=>(he b hb).le⟩
def Open (full:List Rec) (D:Nat->Bool) (d:Nat):Prop:=∃r∈full,D r.i=false/\r.lo<=d/\d < r.hi
def Agree (full:List Rec) (D:Nat->Bool) (σ σ':aZ):Prop:=∀d,¬Open full D d->σ'.at_ d=σ.at_ d/\σ'.sz d=σ.sz d
theorem Agree.refl (full:List Rec) (D:Nat->Bool) (σ:aZ):Agree full D σ σ:=fun _ _=>⟨rfl,rfl⟩
noncomputable def f0 (s:bY) (x:Nat):AV×Nat:=(slot s.t x,s.N)
def m0 (s:bY) (d:Nat):Option ax×Nat:=(s.g d,s.N)
structure Inv (w0:World) (s:bY) (σ0:aZ) (ws:World) (full:List Rec) (D:Nat->Bool) (σ:aZ) (a:Act) (w:World):Prop where
 size:a.tmps.size=s.t.length
 tm:∀σ',Agree full D σ σ'->∀x,x < s.t.length->af σ' (tF (f0 s) D full x).2 (tF (f0 s) D full x).1 (a.tmps.getD x undef)
 mm:∀d o,(mF (m0 s) D full d).1=some o->d < (mF (m0 s) D full d).2/\¬Open full D d/\∃O,w.heap[σ.at_ d]?=some O/\∀σ',Agree full D σ σ'->oo σ' (mF (m0 s) D full d).2 (σ.sz d) o O
 inj:∀d e o o',(mF (m0 s) D full d).1=some o->(mF (m0 s) D full e).1=some o'->o.ro=false->σ.at_ d=σ.at_ e->d=e
 base:Base w0 σ (fun d=>(mF (m0 s) D full d).1) w
 keep:MR σ0 s.g ws σ (fun d=>(mF (m0 s) D full d).1) w
 ext:∀d,d < s.N->σ.at_ d=σ0.at_ d/\σ.sz d=σ0.sz d
 ng:a.defers=marks σ0 s.d
noncomputable def jk (s:bY) (r:Rec) (e:List Rec):List AV:=(List.range s.t.length).map fun x=>if r.look x then (tF (f0 s) ou e x).1 else .bg
def gT (s:bY) (e:List Rec):Mem:=fun d=>(mF (m0 s) ou e d).1
theorem ZH {w0:World} {s:bY} {σ0:aZ} {ws:World} {D:Nat->Bool} {σ σ':aZ} {a:Act} {w:World} {r:Rec} {l e:List Rec} (hi:Inv w0 s σ0 ws (l++r::e) D σ a w) (hag:Agree (l++r::e) D σ σ') (hr:D r.i=false) (oN:∀j,r.kK j=true->D j=true) (hl:∀a∈l,jy a r) (hla:∀a∈l,D a.i=true->a.kK r.i=false) (he:∀b∈e,jy r b) (hN:s.N<=r.lo):
  ai σ' r.lo (jk s r e) a.tmps.toList:=by
 refine ai.of (by simp [jk,hi.size]) fun x v u hv hu=>?_
 have hx:x < s.t.length:=by
  have:=(List.getElem?_eq_some_iff.1 hv).1
  simpa [jk] using this
 have hv':v=if r.look x then (tF (f0 s) ou e x).1 else .bg:=by
  simp [jk,hx] at hv
  exact hv.symm
 by_cases hlk:r.look x=true
 ·rw [if_pos hlk] at hv'
  subst hv'
  have h1:=hi.tm σ' hag x hx
  rw [look_eq hr oN hl hla he hlk] at h1
  have hu':a.tmps.getD x undef=u:=by
   have:a.tmps[x]?=some u:=by simpa using hu
   simp [Array.getD_eq_getD_getElem?,this]
  rw [hu'] at h1
  exact h1.ext ⟨Ut (by exact hN) fun b hb=>(he b hb).le,fun _ _=>rfl,fun _ _=>rfl⟩
 ·rw [if_neg hlk] at hv'
  subst hv'
  simp only [af]
theorem Uv {w0:World} {s:bY} {σ0:aZ} {ws:World} {D:Nat->Bool} {σ σ':aZ} {a:Act} {w:World} {r:Rec} {l e:List Rec} (hi:Inv w0 s σ0 ws (l++r::e) D σ a w) (hag:Agree (l++r::e) D σ σ') (hr:D r.i=false) (oN:∀j,r.kK j=true->D j=true) (hl:∀a∈l,jy a r) (hla:∀a∈l,D a.i=true->a.kK r.i=false) (he:∀b∈e,jy r b) (hN:s.N<=r.lo)
  {gv:Mem} (hgv:∀d o,gv d=some o->d < r.lo/\r.dom d=true/\gT s e d=some o):eF σ' gv r.lo w/\Base w0 σ' gv w:=by
 have key:∀d o,gv d=some o->d < r.lo/\(mF (m0 s) D (l++r::e) d).1=some o/\(mF (m0 s) D (l++r::e) d).2<=r.lo/\σ'.at_ d=σ.at_ d/\σ'.sz d=σ.sz d:=by
  intro d o h
  obtain⟨h1,h2,h3⟩:=hgv d o h
  obtain⟨q1,q2⟩:=FU (m0:=m0 s) hr oN hl hla he h2 hN
  have q3:(mF (m0 s) D (l++r::e) d).1=some o:=by rw [q1];exact h3
  obtain⟨_,hop,_⟩:=hi.mm d o q3
  exact⟨h1,q3,q2,hag d hop⟩
 refine⟨⟨fun d o h=>?_,fun d d' o o' h h' hro hat=>?_⟩,⟨hi.base.os,hi.base.tape,hi.base.output,hi.base.size,hi.base.block,fun d o h hro=>?_⟩⟩
 ·obtain⟨h1,h2,h3,h4,h5⟩:=key d o h
  obtain⟨_,_,O,hO,hrel⟩:=hi.mm d o h2
  refine⟨h1,O,by rw [h4];exact hO,?_⟩
  rw [h5]
  exact(hrel σ' hag).ext ⟨h3,fun _ _=>rfl,fun _ _=>rfl⟩
 ·obtain⟨_,h2,_,h4,_⟩:=key d o h
  obtain⟨_,h2',_,h4',_⟩:=key d' o' h'
  exact hi.inj d d' o o' h2 h2' hro (by rw [<- h4, <- h4',hat])
 ·obtain⟨_,h2,_,h4,_⟩:=key d o h
  rw [h4]
  exact hi.base.wr d o h2 hro
structure zF (s:bY) (r:Rec) (e:List Rec):Prop where
 lo:s.N<=r.lo
 le:r.lo<=r.hi
 supp:∀d o,r.g' d=some o->d < r.hi
 new:∀d,r.lo<=d->d < r.hi->r.qY d=true
 ZI:r.ch=false->∀d,r.qY d=true->r.lo<=d/\d < r.hi/\∀o,r.g' d=some o->o.ro=false
 old:r.ch=true->∀d,d < r.lo->r.dom d=true/\(r.qY d=false->r.g' d=gT s e d)
 Nr:∀d o,gT s e d=some o->d < r.lo
theorem high {s:bY} {D:Nat->Bool} {r:Rec} {e:List Rec} (hr:D r.i=false) (Ns:∀d o,s.g d=some o->d < s.N) (hok:zF s r e) (he:∀b∈e,b.hi<=r.lo/\∀d o,b.g' d=some o->d < b.hi) {d:Nat} {o:ax} (hd:r.hi<=d):∀{l:List Rec},(∀a∈l,D a.i=true->a.ch=false/\(∀d,a.qY d=true->∀o,a.g' d=some o->o.ro=false))->(mF (m0 s) D (l++r::e) d).1=some o->o.ro=false
 | a::l,hl,h=>by
  simp only [List.cons_append,mF] at h
  split at h
  ·rename_i q
   exact(hl a (by simp) q.1).2 d q.2 o h
  ·split at h
   ·rename_i q
    have:=(hl a (by simp) q.1).1
    rw [this] at q
    cases q.2.1
   ·exact high hr Ns hok he hd (fun c hc=>hl c (by simp [hc])) h
 | [],_,h=>by
  simp only [List.nil_append,mF,hr,Bool.false_eq_true,false_and,if_false] at h
  exfalso
  have:∀{e:List Rec},(∀b∈e,b.hi<=r.lo/\∀d o,b.g' d=some o->d < b.hi)->(mF (m0 s) D e d).1=some o->d < r.lo:=by
   intro e
   induction e with
   | nil=>intro _ h;have:=Ns d o h;have:=hok.lo;omega
   | cons b e ih=>
    intro he h
    simp only [mF] at h
    split at h
    ·have:=(he b (by simp)).2 d o h;have:=(he b (by simp)).1;omega
    ·split at h
     ·exact ih (fun c hc=>he c (by simp [hc])) h
     ·exact ih (fun c hc=>he c (by simp [hc])) h
  have h1:=this he h
  have h2:=hok.le
  omega
end
end Go.AM
namespace Go.AM
open Go Go.RowKit
section
variable {P:Program} {w0:World} {ro:Option Nat}
def FV (σ σ1:aZ) (n:Nat):aZ:={at_:=fun d=>if d < n then σ1.at_ d else σ.at_ d,sz:=fun d=>if d < n then σ1.sz d else σ.sz d}
theorem Sy {s:bY} {σ0:aZ} {ws:World} {D:Nat->Bool} {σ:aZ} {a:Act} {w:World} {r:Rec} {l e:List Rec} (hi:Inv w0 s σ0 ws (l++r::e) D σ a w) (hr:D r.i=false) (oN:∀j,r.kK j=true->D j=true)
  (hl:∀a∈l,jy a r) (hla:∀a∈l,D a.i=true->a.kK r.i=false) (he:∀b∈e,jy r b) (hok:zF s r e) (hch:r.ch=true)
  (Sz:∀a∈l,a.ch=false->∀d,a.qY d=true->a.lo<=d/\d < a.hi/\∀o,a.g' d=some o->o.ro=false) (hes:∀b∈e,∀d o,b.g' d=some o->d < b.hi) (Ns:∀d o,s.g d=some o->d < s.N)
  {σ1:aZ} {w':World} {x:Value} (hp:Post w0 σ (gT s e) r.lo w σ1 r.g' r.hi w') (hx:af σ1 r.hi r.v x):Inv w0 s σ0 ws (l++r::e) (dU D r.i) (FV σ σ1 r.hi) (a.put r.dst x) w':=by
 have MM:∀b∈e,D b.i=true:=fun b hb=>oN _ ((he b hb).ch hch)
 have hlch:∀a∈l,D a.i=true->a.ch=false:=fun a ha hD=>by
  cases hc:a.ch with
  | false=>rfl
  | true=>have:=(hl a ha).ch hc;rw [hla a ha hD] at this;cases this
 have Wl:∀d,Open (l++r::e) (dU D r.i) d->Open (l++r::e) D d/\r.hi<=d:=by
  rintro d ⟨q,hq,hD,h1,h2⟩
  simp only [dU,Bool.or_eq_false_iff] at hD
  refine⟨⟨q,hq,hD.1,h1,h2⟩,?_⟩
  rcases List.mem_append.1 hq with hq | hq
  ·exact Nat.le_trans (hl q hq).le h1
  ·rcases List.mem_cons.1 hq with rfl | hq
   ·simp at hD
   ·have:=MM q hq;rw [hD.1] at this;cases this
 have op2:∀d,r.lo<=d->d < r.hi->Open (l++r::e) D d:=fun d h1 h2=>⟨r,by simp,hr,h1,h2⟩
 have hag:∀σ',Agree (l++r::e) (dU D r.i) (FV σ σ1 r.hi) σ'->Agree (l++r::e) D σ σ'/\Ext σ1 r.hi σ' r.hi:=by
  intro σ' h
  refine⟨fun d hd=>?_,Nat.le_refl _,fun d hd=>?_,fun d hd=>?_⟩
  ·obtain⟨h1,h2⟩:=h d (fun q=>hd (Wl d q).1)
   simp only [FV] at h1 h2
   by_cases q:d < r.hi
   ·rw [if_pos q] at h1 h2
    have hlo:d < r.lo:=by
     apply Nat.lt_of_not_le
     intro q2
     exact hd (op2 d q2 q)
    exact⟨h1.trans (hp.ext.at_ d hlo),h2.trans (hp.ext.sz d hlo)⟩
   ·rw [if_neg q] at h1 h2
    exact⟨h1,h2⟩
  ·have:=(h d (fun q=>by have:=(Wl d q).2;omega)).1
   simpa [FV,hd] using this
  ·have:=(h d (fun q=>by have:=(Wl d q).2;omega)).2
   simpa [FV,hd] using this
 have hself:=hag _ (Agree.refl _ _ _)
 have Uw:∀y,tF (f0 s) (dU D r.i) (l++r::e) y=if r.dst=some y then (r.v,r.hi) else tF (f0 s) D (l++r::e) y:=fun y=>Lh hr he hl
 have FW:∀d,mF (m0 s) (dU D r.i) (l++r::e) d=if r.qY d=true then (r.g' d,r.hi) else if r.ch=true/\d < r.lo then ((mF (m0 s) D (l++r::e) d).1,r.hi) else mF (m0 s) D (l++r::e) d:=fun d=>
  Li hr he hl hla (fun a ha hc d ht=>(Sz a ha hc d ht).1) hok.le
 have low:∀d o,d < r.hi->(mF (m0 s) (dU D r.i) (l++r::e) d).1=some o->r.g' d=some o/\(mF (m0 s) (dU D r.i) (l++r::e) d).2=r.hi:=by
  intro d o hd h
  rw [FW] at h ⊢
  by_cases ht:r.qY d=true
  ·rw [if_pos ht] at h ⊢;exact⟨h,rfl⟩
  ·have hlo:d < r.lo:=by
    apply Nat.lt_of_not_le
    intro q2
    exact ht (hok.new d q2 hd)
   rw [if_neg ht,if_pos ⟨hch,hlo⟩] at h ⊢
   obtain⟨q1,q2⟩:=hok.old hch d hlo
   rw [q2 (by simpa using ht)]
   have:=(FU (m0:=m0 s) hr oN hl hla he q1 hok.lo).1
   rw [this] at h
   exact⟨h,rfl⟩
 have up:∀d o,r.hi<=d->(mF (m0 s) (dU D r.i) (l++r::e) d).1=some o->mF (m0 s) (dU D r.i) (l++r::e) d=mF (m0 s) D (l++r::e) d/\o.ro=false/\σ.at_ d < w.heap.size/\(∀d' o',gT s e d'=some o'->σ.at_ d'≠σ.at_ d):=by
  intro d o hd h
  have hnt:¬r.qY d=true\/r.g' d=some o:=by
   by_cases ht:r.qY d=true
   ·right;rw [FW,if_pos ht] at h;exact h
   ·exact .inl ht
  have hnt:¬r.qY d=true:=by
   rcases hnt with h1 | h1
   ·exact h1
   ·have:=hok.supp d o h1;omega
  have e1:mF (m0 s) (dU D r.i) (l++r::e) d=mF (m0 s) D (l++r::e) d:=by
   have hle:=hok.le
   rw [FW,if_neg hnt,if_neg (fun q=>by omega)]
  rw [e1] at h
  have hro:o.ro=false:=high hr Ns hok (fun b hb=>⟨(he b hb).le,hes b hb⟩) hd (fun a ha hD=>⟨hlch a ha hD,fun d ht o ho=>(Sz a ha (hlch a ha hD) d ht).2.2 o ho⟩) h
  obtain⟨_,_,O,hO,_⟩:=hi.mm d o h
  refine⟨e1,hro,(Array.getElem?_eq_some_iff.1 hO).1,fun d' o' h' hat=>?_⟩
  have PN:=hok.Nr d' o' h'
  obtain⟨q1,_⟩:=hok.old hch d' PN
  have h2:=(FU (m0:=m0 s) hr oN hl hla he q1 hok.lo).1
  have:=hi.inj d d' o o' h (by rw [h2];exact h') hro hat.symm
  have:=hok.le
  omega
 have zG:∀d,d < r.hi->(FV σ σ1 r.hi).at_ d=σ1.at_ d/\(FV σ σ1 r.hi).sz d=σ1.sz d:=fun d hd=>by simp [FV,hd]
 have Dc:∀d,r.hi<=d->(FV σ σ1 r.hi).at_ d=σ.at_ d/\(FV σ σ1 r.hi).sz d=σ.sz d:=fun d hd=>by simp [FV,Nat.not_lt.2 hd]
 refine⟨?_,fun σ' h y hy=>?_,fun d o h=>?_,fun d d' o o' h h' hro hat=>?_,⟨hp.base.os,hp.base.tape,hp.base.output,hp.base.size,hp.base.block,fun d o h hro=>?_⟩,⟨Nat.le_trans hi.keep.size hp.keep.size,fun q hq hw=>?_,fun q hq hw d o h=>?_⟩,fun d hd=>?_,?_⟩
 ·cases r.dst<;>simp [Act.put,hi.size]
 ·obtain⟨h1,h2⟩:=hag σ' h
  rw [Uw]
  by_cases hy2:r.dst=some y
  ·rw [if_pos hy2]
   have:(a.put r.dst x).tmps.getD y undef=x:=by
    rw [hy2]
    have:y < a.tmps.size:=by rw [hi.size];exact hy
    simp [Act.put,Array.getD_eq_getD_getElem?,this]
   rw [this]
   exact hx.ext h2
  ·rw [if_neg hy2]
   have:(a.put r.dst x).tmps.getD y undef=a.tmps.getD y undef:=by
    cases hd:r.dst with
    | none=>rfl
    | some z=>
     have hne:z≠y:=fun q=>hy2 (by rw [hd,q])
     simp [Act.put,Array.getD_eq_getD_getElem?,Array.getElem?_setIfInBounds_ne hne]
   rw [this]
   exact hi.tm σ' h1 y hy
 ·by_cases hd:d < r.hi
  ·obtain⟨h1,h2⟩:=low d o hd h
   obtain⟨_,O,hO,hrel⟩:=hp.rel.ob d o h1
   obtain⟨a1,a2⟩:=zG d hd
   refine⟨by rw [h2];exact hd,fun q=>by have:=(Wl d q).2;omega,O,by rw [a1];exact hO,fun σ' h'=>?_⟩
   rw [h2,a2]
   exact hrel.ext (hag σ' h').2
  ·have hd':r.hi<=d:=Nat.not_lt.1 hd
   obtain⟨h1,h2,h3,h4⟩:=up d o hd' h
   obtain⟨a1,a2⟩:=Dc d hd'
   rw [h1] at h ⊢
   obtain⟨m1,m2,O,hO,hrel⟩:=hi.mm d o h
   refine⟨m1,fun q=>m2 (Wl d q).1,O,?_,fun σ' h'=>?_⟩
   ·rw [a1,(hp.keep.block _ h3 (fun d' o' h' _=>h4 d' o' h')).1];exact hO
   ·rw [a2];exact hrel σ' (hag σ' h').1
 ·by_cases hd:d < r.hi<;>by_cases hd':d' < r.hi
  ·rw [(zG d hd).1,(zG d' hd').1] at hat
   exact hp.rel.inj d d' o o' (low d o hd h).1 (low d' o' hd' h').1 hro hat
  ·exfalso
   obtain⟨h1,h2,h3,h4⟩:=up d' o' (Nat.not_lt.1 hd') h'
   rw [(zG d hd).1,(Dc d' (Nat.not_lt.1 hd')).1] at hat
   exact hp.keep.told _ h3 h4 d o (low d o hd h).1 hat
  ·exfalso
   obtain⟨h1,h2,h3,h4⟩:=up d o (Nat.not_lt.1 hd) h
   rw [(Dc d (Nat.not_lt.1 hd)).1,(zG d' hd').1] at hat
   exact hp.keep.told _ h3 h4 d' o' (low d' o' hd' h').1 hat.symm
  ·obtain⟨h1,_⟩:=up d o (Nat.not_lt.1 hd) h
   obtain⟨h1',_⟩:=up d' o' (Nat.not_lt.1 hd') h'
   rw [(Dc d (Nat.not_lt.1 hd)).1,(Dc d' (Nat.not_lt.1 hd')).1] at hat
   rw [h1] at h
   rw [h1'] at h'
   exact hi.inj d d' o o' h h' hro hat
 ·by_cases hd:d < r.hi
  ·rw [(zG d hd).1]
   exact hp.base.wr d o (low d o hd h).1 hro
  ·obtain⟨h1,_⟩:=up d o (Nat.not_lt.1 hd) h
   rw [(Dc d (Nat.not_lt.1 hd)).1]
   rw [h1] at h
   exact hi.base.wr d o h hro
 ·obtain⟨k1,k2⟩:=hi.keep.block q hq hw
  have hq':=Nat.lt_of_lt_of_le hq hi.keep.size
  have kv:∀d o,gT s e d=some o->o.ro=false->σ.at_ d≠q:=fun d o h hro=>by
   have PN:=hok.Nr d o h
   obtain⟨q1,_⟩:=hok.old hch d PN
   have h2:=(FU (m0:=m0 s) hr oN hl hla he q1 hok.lo).1
   exact k2 d o (by rw [h2];exact h) hro
  obtain⟨k3,k4⟩:=hp.keep.block q hq' kv
  refine⟨k3.trans k1,fun d o h hro=>?_⟩
  by_cases hd:d < r.hi
  ·rw [(zG d hd).1]
   exact k4 d o (low d o hd h).1 hro
  ·obtain⟨h1,_⟩:=up d o (Nat.not_lt.1 hd) h
   rw [(Dc d (Nat.not_lt.1 hd)).1]
   rw [h1] at h
   exact k2 d o h hro
 ·have k2:=hi.keep.told q hq hw
  have hq':=Nat.lt_of_lt_of_le hq hi.keep.size
  have kv:∀d o,gT s e d=some o->σ.at_ d≠q:=fun d o h=>by
   have PN:=hok.Nr d o h
   obtain⟨q1,_⟩:=hok.old hch d PN
   have h2:=(FU (m0:=m0 s) hr oN hl hla he q1 hok.lo).1
   exact k2 d o (by rw [h2];exact h)
  have k4:=hp.keep.told q hq' kv
  by_cases hd:d < r.hi
  ·rw [(zG d hd).1]
   exact k4 d o (low d o hd h).1
  ·obtain⟨h1,_⟩:=up d o (Nat.not_lt.1 hd) h
   rw [(Dc d (Nat.not_lt.1 hd)).1]
   rw [h1] at h
   exact k2 d o h
 ·have h1:=hok.lo
  have h2:=hok.le
  obtain⟨a1,a2⟩:=zG d (by omega)
  obtain⟨b1,b2⟩:=hi.ext d hd
  rw [a1,a2,hp.ext.at_ d (by omega),hp.ext.sz d (by omega)]
  exact⟨b1,b2⟩
 ·rw [<- hi.ng]
  cases r.dst<;>rfl
theorem Rx {a:Act} {d:Option Nat} {x:Value} {y:Nat} (hy:y < a.tmps.size):(a.put d x).tmps.getD y undef=if d=some y then x else a.tmps.getD y undef:=by
 by_cases h:d=some y
 ·rw [if_pos h,h]
  simp [Act.put,Array.getD_eq_getD_getElem?,hy]
 ·rw [if_neg h]
  cases hd:d with
  | none=>rfl
  | some z=>
   have hne:z≠y:=fun q=>h (by rw [hd,q])
   simp [Act.put,Array.getD_eq_getD_getElem?,Array.getElem?_setIfInBounds_ne hne]
theorem Ux {σ σ':aZ} {N N':Nat} (h:Ext σ N σ' N'):Ext σ' N σ N:=⟨Nat.le_refl _,fun d hd=>(h.at_ d hd).symm,fun d hd=>(h.sz d hd).symm⟩
theorem JU {s:bY} {σ0:aZ} {ws:World} {D:Nat->Bool} {σ:aZ} {a:Act} {w:World} {r:Rec} {l e:List Rec} (hi:Inv w0 s σ0 ws (l++r::e) D σ a w) (hr:D r.i=false)
  (hl:∀a∈l,jy a r) (hla:∀a∈l,D a.i=true->a.kK r.i=false) (he:∀b∈e,jy r b) (hok:zF s r e) (hch:r.ch=false)
  (Sz:∀a∈l,a.ch=false->∀d,a.qY d=true->a.lo<=d/\d < a.hi/\∀o,a.g' d=some o->o.ro=false)
  (hn:r.hi=r.lo) {w':World} {x:Value} (hh:w'.heap=w.heap) (h1:w'.os=w.os) (h2:w'.tape=w.tape) (h3:w'.output=w.output)
  (hx:∀σ',Agree (l++r::e) D σ σ'->af σ' r.lo r.v x):Inv w0 s σ0 ws (l++r::e) (dU D r.i) σ (a.put r.dst x) w':=by
 have op:∀d,Open (l++r::e) (dU D r.i) d↔Open (l++r::e) D d:=by
  intro d
  constructor
  ·rintro⟨q,hq,hD,p1,p2⟩
   simp only [dU,Bool.or_eq_false_iff] at hD
   exact⟨q,hq,hD.1,p1,p2⟩
  ·rintro⟨q,hq,hD,p1,p2⟩
   refine⟨q,hq,?_,p1,p2⟩
   simp only [dU,hD,Bool.false_or]
   have:q.i≠r.i:=by
    rcases List.mem_append.1 hq with hq | hq
    ·exact(hl q hq).ne
    ·rcases List.mem_cons.1 hq with rfl | hq
     ·omega
     ·exact(he q hq).ne.symm
   simpa using this
 have hag:∀σ',Agree (l++r::e) (dU D r.i) σ σ'->Agree (l++r::e) D σ σ':=fun σ' h d hd=>h d fun q=>hd ((op d).1 q)
 have Uw:∀y,tF (f0 s) (dU D r.i) (l++r::e) y=if r.dst=some y then (r.v,r.hi) else tF (f0 s) D (l++r::e) y:=fun y=>Lh hr he hl
 have FW:∀d,mF (m0 s) (dU D r.i) (l++r::e) d=mF (m0 s) D (l++r::e) d:=fun d=>by
  rw [Li hr he hl hla (fun a ha hc d ht=>(Sz a ha hc d ht).1) hok.le,if_neg,if_neg]
  ·rw [hch];rintro⟨q,_⟩;cases q
  ·intro q
   obtain⟨q1,q2,_⟩:=hok.ZI hch d q
   omega
 have mfun:(fun d=>(mF (m0 s) (dU D r.i) (l++r::e) d).1)=fun d=>(mF (m0 s) D (l++r::e) d).1:=by funext d;rw [FW]
 refine⟨?_,fun σ' h y hy=>?_,fun d o h=>?_,fun d d' o o' h h' hro hat=>?_,?_,?_,hi.ext,?_⟩
 ·cases r.dst<;>simp [Act.put,hi.size]
 ·rw [Uw,Rx (by rw [hi.size];exact hy)]
  by_cases hy2:r.dst=some y
  ·rw [if_pos hy2,if_pos hy2,hn]
   exact hx σ' (hag σ' h)
  ·rw [if_neg hy2,if_neg hy2]
   exact hi.tm σ' (hag σ' h) y hy
 ·rw [FW] at h ⊢
  obtain⟨m1,m2,O,hO,hrel⟩:=hi.mm d o h
  exact⟨m1,fun q=>m2 ((op d).1 q),O,by rw [hh];exact hO,fun σ' h'=>hrel σ' (hag σ' h')⟩
 ·rw [FW] at h h'
  exact hi.inj d d' o o' h h' hro hat
 ·rw [mfun]
  exact⟨h1.trans hi.base.os,h2.trans hi.base.tape,h3.trans hi.base.output,by rw [hh];exact hi.base.size,fun q hq=>by rw [hh];exact hi.base.block q hq,hi.base.wr⟩
 ·rw [mfun]
  exact⟨by rw [hh];exact hi.keep.size,fun q hq hw=>by rw [hh];exact hi.keep.block q hq hw,hi.keep.told⟩
 ·rw [<- hi.ng]
  cases r.dst<;>rfl
theorem Uy {s:bY} {σ0:aZ} {ws:World} {D:Nat->Bool} {σ:aZ} {a:Act} {w:World} {r:Rec} {l e:List Rec} (hi:Inv w0 s σ0 ws (l++r::e) D σ a w) (hr:D r.i=false)
  (hl:∀a∈l,jy a r) (hla:∀a∈l,D a.i=true->a.kK r.i=false) (he:∀b∈e,jy r b) (hok:zF s r e) (hch:r.ch=false)
  (Sz:∀a∈l,a.ch=false->∀d,a.qY d=true->a.lo<=d/\d < a.hi/\∀o,a.g' d=some o->o.ro=false)
  (hn:r.hi=r.lo+1) {w':World} {x:Value} {ac:AC} (hg:r.g' r.lo=some (.cells ac false)) (hs:w.heap.size<=w'.heap.size) (hh:∀q,q < w.heap.size->w'.heap[q]?=w.heap[q]?) (h1:w'.os=w.os) (h2:w'.tape=w.tape) (h3:w'.output=w.output)
  (hx:∀σ',Agree (l++r::e) D σ σ'->∃σ1,Ext σ' r.lo σ1 (r.lo+1)/\σ1.at_ r.lo=w.heap.size/\(∃O,w'.heap[w.heap.size]?=some O/\oo σ1 (r.lo+1) (σ1.sz r.lo) (.cells ac false) O)/\af σ1 (r.lo+1) r.v x):
  ∃σ2,Inv w0 s σ0 ws (l++r::e) (dU D r.i) σ2 (a.put r.dst x) w':=by
 obtain⟨σa,xa,aa,⟨O,hO,ra⟩,va⟩:=hx σ (Agree.refl _ _ _)
 obtain⟨C,el,fz,rfl,hC,_⟩:=ra
 have Wl:∀d,Open (l++r::e) (dU D r.i) d->Open (l++r::e) D d/\d≠r.lo:=by
  rintro d ⟨q,hq,hD,p1,p2⟩
  simp only [dU,Bool.or_eq_false_iff] at hD
  refine⟨⟨q,hq,hD.1,p1,p2⟩,?_⟩
  rcases List.mem_append.1 hq with hq | hq
  ·have:=(hl q hq).le;omega
  ·rcases List.mem_cons.1 hq with rfl | hq
   ·simp at hD
   ·have:=(he q hq).le;omega
 have op2:Open (l++r::e) D r.lo:=⟨r,by simp,hr,Nat.le_refl _,by omega⟩
 have at2:∀d,d≠r.lo->(σ.ins r.lo w.heap.size C.size).at_ d=σ.at_ d/\(σ.ins r.lo w.heap.size C.size).sz d=σ.sz d:=fun d hd=>by simp [aZ.ins,hd]
 obtain⟨ZJ,sz1⟩:=iZ σ r.lo w.heap.size C.size
 have hag:∀σ',Agree (l++r::e) (dU D r.i) (σ.ins r.lo w.heap.size C.size) σ'->Agree (l++r::e) D σ σ'/\σ'.at_ r.lo=w.heap.size/\σ'.sz r.lo=C.size:=by
  intro σ' h
  refine⟨fun d hd=>?_,?_⟩
  ·have hne:d≠r.lo:=fun q=>hd (by rw [q];exact op2)
   obtain⟨q1,q2⟩:=h d (fun q=>hd (Wl d q).1)
   obtain⟨b1,b2⟩:=at2 d hne
   exact⟨q1.trans b1,q2.trans b2⟩
  ·obtain⟨q1,q2⟩:=h r.lo (fun q=>(Wl _ q).2 rfl)
   exact⟨q1.trans ZJ,q2.trans sz1⟩
 have hxx:∀σ',Agree (l++r::e) (dU D r.i) (σ.ins r.lo w.heap.size C.size) σ'->oo σ' (r.lo+1) C.size (.cells ac false) (.cells C el fz)/\af σ' (r.lo+1) r.v x:=by
  intro σ' h
  obtain⟨g1,g2,g3⟩:=hag σ' h
  obtain⟨σ1,x1,a1,⟨O1,WL,r1⟩,v1⟩:=hx σ' g1
  rw [hO] at WL
  injection WL with WL
  subst WL
  have hsz:C.size=σ1.sz r.lo:=by
   obtain⟨C',Ur,fz',e1,hC',_⟩:=r1
   injection e1 with e1
   rw [e1];exact hC'
  have PO:Ext σ1 (r.lo+1) σ' (r.lo+1):=⟨Nat.le_refl _,fun d hd=>by
   by_cases q:d=r.lo
   ·rw [q,g2,a1]
   ·exact(x1.at_ d (by omega)).symm,fun d hd=>by
   by_cases q:d=r.lo
   ·rw [q,g3,hsz]
   ·exact(x1.sz d (by omega)).symm⟩
  rw [<- hsz] at r1
  exact⟨r1.ext PO,v1.ext PO⟩
 have Uw:∀y,tF (f0 s) (dU D r.i) (l++r::e) y=if r.dst=some y then (r.v,r.hi) else tF (f0 s) D (l++r::e) y:=fun y=>Lh hr he hl
 have FW:∀d,mF (m0 s) (dU D r.i) (l++r::e) d=if d=r.lo then (some (.cells ac false),r.hi) else mF (m0 s) D (l++r::e) d:=fun d=>by
  rw [Li hr he hl hla (fun a ha hc d ht=>(Sz a ha hc d ht).1) hok.le]
  by_cases hd:d=r.lo
  ·have ht:r.qY d=true:=hok.new d (by omega) (by omega)
   rw [if_pos ht,if_pos hd,hd,hg]
  ·rw [if_neg hd,if_neg,if_neg]
   ·rw [hch];rintro⟨q,_⟩;cases q
   ·intro q
    obtain⟨q1,q2,_⟩:=hok.ZI hch d q
    omega
 have cs:∀d o,(mF (m0 s) (dU D r.i) (l++r::e) d).1=some o->(d=r.lo/\o= .cells ac false)\/(d≠r.lo/\mF (m0 s) (dU D r.i) (l++r::e) d=mF (m0 s) D (l++r::e) d/\(mF (m0 s) D (l++r::e) d).1=some o/\σ.at_ d < w.heap.size):=by
  intro d o h
  by_cases hd:d=r.lo
  ·rw [FW,if_pos hd] at h
   injection h with h
   exact .inl ⟨hd,h.symm⟩
  ·have e1:=FW d
   rw [if_neg hd] at e1
   rw [e1] at h
   obtain⟨_,_,O,hO,_⟩:=hi.mm d o h
   exact .inr ⟨hd,e1,h,(Array.getElem?_eq_some_iff.1 hO).1⟩
 refine⟨σ.ins r.lo w.heap.size C.size,?_,fun σ' h y hy=>?_,fun d o h=>?_,fun d d' o o' h h' hro hat=>?_,⟨h1.trans hi.base.os,h2.trans hi.base.tape,h3.trans hi.base.output,Nat.le_trans hi.base.size hs,fun q hq=>?_,fun d o h hro=>?_⟩,⟨Nat.le_trans hi.keep.size hs,fun q hq hw=>⟨?_,fun d o h hro=>?_⟩,fun q hq hw d o h=>?_⟩,fun d hd=>?_,?_⟩
 ·cases r.dst<;>simp [Act.put,hi.size]
 ·rw [Uw,Rx (by rw [hi.size];exact hy)]
  by_cases hy2:r.dst=some y
  ·rw [if_pos hy2,if_pos hy2,hn]
   exact(hxx σ' h).2
  ·rw [if_neg hy2,if_neg hy2]
   exact hi.tm σ' (hag σ' h).1 y hy
 ·rcases cs d o h with⟨rfl,rfl⟩ | ⟨hd,e1,h,_⟩
  ·rw [FW,if_pos rfl,hn]
   refine⟨by simp,fun q=>(Wl _ q).2 rfl, .cells C el fz,by rw [ZJ];exact hO,fun σ' h'=>?_⟩
   rw [sz1]
   exact(hxx σ' h').1
  ·rw [e1]
   obtain⟨m1,m2,O2,hO2,hrel⟩:=hi.mm d o h
   obtain⟨b1,b2⟩:=at2 d hd
   refine⟨m1,fun q=>m2 (Wl d q).1,O2,?_,fun σ' h'=>?_⟩
   ·rw [b1,hh _ (Array.getElem?_eq_some_iff.1 hO2).1];exact hO2
   ·rw [b2];exact hrel σ' (hag σ' h').1
 ·rcases cs d o h with⟨rfl,rfl⟩ | ⟨hd,_,h,hb⟩<;>rcases cs d' o' h' with⟨rfl,rfl⟩ | ⟨hd',_,h',hb'⟩
  ·rfl
  ·rw [ZJ,(at2 d' hd').1] at hat;omega
  ·rw [ZJ,(at2 d hd).1] at hat;omega
  ·rw [(at2 d hd).1,(at2 d' hd').1] at hat
   exact hi.inj d d' o o' h h' hro hat
 ·rw [hh q (Nat.lt_of_lt_of_le hq hi.base.size)];exact hi.base.block q hq
 ·rcases cs d o h with⟨rfl,rfl⟩ | ⟨hd,_,h,_⟩
  ·rw [ZJ];exact hi.base.size
  ·rw [(at2 d hd).1];exact hi.base.wr d o h hro
 ·rw [hh q (Nat.lt_of_lt_of_le hq hi.keep.size)];exact(hi.keep.block q hq hw).1
 ·rcases cs d o h with⟨rfl,rfl⟩ | ⟨hd,_,h,_⟩
  ·rw [ZJ];have:=hi.keep.size;omega
  ·rw [(at2 d hd).1];exact(hi.keep.block q hq hw).2 d o h hro
 ·rcases cs d o h with⟨rfl,rfl⟩ | ⟨hd,_,h,_⟩
  ·rw [ZJ];have:=hi.keep.size;omega
  ·rw [(at2 d hd).1];exact hi.keep.told q hq hw d o h
 ·have:=hok.lo
  obtain⟨b1,b2⟩:=at2 d (by omega)
  obtain⟨c1,c2⟩:=hi.ext d hd
  exact⟨b1.trans c1,b2.trans c2⟩
 ·rw [<- hi.ng]
  cases r.dst<;>rfl
end
end Go.AM
namespace Go.AM
open Go Go.RowKit
section
variable {P:Program} {w0:World} {ro:Option Nat}
def Step (P:Program) (w0:World) (ro:Option Nat) (ops:Array Oper) (s:bY) (r:Rec) (e:List Rec) (o:Oper):Prop:=
 (fG ops (jk s r e) o=some false/\r.v= .un/\r.ch=false/\r.hi=r.lo)\/
 (fG ops (jk s r e) o=some true/\r.ch=true/\JS P w0 ro o ⟨jk s r e,s.d,gT s e,r.lo⟩ (fun v g N=>v=r.v/\g=r.g'/\N=r.hi))\/
 (fG ops (jk s r e) o=some true/\r.ch=false/\∃md gv c X3,(∀d o,gv d=some o->d < r.lo/\r.dom d=true/\gT s e d=some o)/\rZ P md (jk s r e) o gv r.lo=some (c,r.v,X3)/\c.ok/\
  ((X3= .none/\r.hi=r.lo)\/∃ac,X3= .push (.cells ac false)/\r.hi=r.lo+1/\r.g' r.lo=some (.cells ac false)))
theorem WN {s:bY} {σ0 σ:aZ} (h:∀d,d < s.N->σ.at_ d=σ0.at_ d/\σ.sz d=σ0.sz d) (hl:∀l,ro=some l->l < s.N):qX σ ro=qX σ0 ro:=by
 unfold qX
 cases ro with
 | none=>rfl
 | some l=>simp [(h l (hl l rfl)).1]
theorem Uz {ops:Array Oper} {s:bY} {σ0:aZ} {ws:World} {D:Nat->Bool} {σ:aZ} {a:Act} {w:World} {r:Rec} {l e:List Rec} {o:Oper} {R:Exit->Act->World->Prop} (hi:Inv w0 s σ0 ws (l++r::e) D σ a w) (hr:D r.i=false) (oN:∀j,r.kK j=true->D j=true)
  (hl:∀a∈l,jy a r) (hla:∀a∈l,D a.i=true->a.kK r.i=false) (he:∀b∈e,jy r b) (hok:zF s r e)
  (Sz:∀a∈l,a.ch=false->∀d,a.qY d=true->a.lo<=d/\d < a.hi/\∀o,a.g' d=some o->o.ro=false) (hes:∀b∈e,∀d o,b.g' d=some o->d < b.hi) (Ns:∀d o,s.g d=some o->d < s.N)
  (hdl:∀q∈s.d,q < s.N) (hrl:∀l,ro=some l->l < s.N) (ho:ops[r.i]?=some o) (hdst:o.dst=r.dst) (hst:Step P w0 ro ops s r e o):
  wpOpIn (qX σ0 ro) 0 P ops R r.i (fun a' w'=>∃σ',Inv w0 s σ0 ws (l++r::e) (dU D r.i) σ' a' w') a w:=by
 have hN:=hok.lo
 have ht:∀σ',Agree (l++r::e) D σ σ'->ai σ' r.lo (jk s r e) a.tmps.toList:=fun σ' h=>ZH hi h hr oN hl hla he hN
 have ht0:=ht σ (Agree.refl _ _ _)
 unfold wpOpIn
 simp only [ho]
 rcases hst with⟨hw,hv,hch,hn⟩ | ⟨hw,hch,hop⟩ | ⟨hw,hch,md,gv,c,X3,hgv,hop,hc,heff⟩
 ·have:=dS (ops:=ops) ht0 hw
  rw [if_neg (by rw [this];simp),hdst]
  exact⟨fun _ _=>trivial,σ,JU hi hr hl hla he hok hch Sz hn rfl rfl rfl rfl fun σ' _=>by rw [hv];exact fI⟩
 ·have:=dS (ops:=ops) ht0 hw
  rw [if_pos this, <- WN hi.ext hrl]
  obtain⟨hrel,hbase⟩:=Uv (gv:=gT s e) hi (Agree.refl _ _ _) hr oN hl hla he hN fun d o h=>⟨hok.Nr d o h,(hok.old hch d (hok.Nr d o h)).1,h⟩
  have m:IZ w0 σ ro ⟨jk s r e,s.d,gT s e,r.lo⟩ a w:=⟨⟨ht0,by
   rw [hi.ng]
   exact List.map_congr_left fun q hq=>by rw [(hi.ext q (hdl q hq)).1],fun q hq=>Nat.lt_of_lt_of_le (hdl q hq) hN,fun q hq=>Nat.lt_of_lt_of_le (hrl q hq) hN⟩,hrel,hbase⟩
  refine hop σ a w m _ _ ?_
  rintro v g' N' σ' w' x ⟨rfl,rfl,rfl⟩ hp hx
  rw [hdst]
  exact⟨_,Sy hi hr oN hl hla he hok hch Sz hes Ns hp hx⟩
 ·have:=dS (ops:=ops) ht0 hw
  rw [if_pos this]
  have hh:∀σ',Agree (l++r::e) D σ σ'->eF σ' gv r.lo w/\Base w0 σ' gv w:=fun σ' h=>Uv hi h hr oN hl hla he hN hgv
  have PQ:=fun σ' (h:Agree (l++r::e) D σ σ')=>JQ (P:=P) (w0:=w0) (hh σ' h).1 (hh σ' h).2 (ht σ' h) hop hc
  refine⟨fun _ _=>trivial,?_⟩
  rw [Oper.semAt_eq _ _ _ (fun q hq=>by simp [rZ,hq] at hop)]
  obtain⟨res,w',σ1,hrun,hp,hqt,hval⟩:=PQ σ (Agree.refl _ _ _)
  rw [hrun]
  have Ry:∃x,(∀(K:Act->World->Prop) (Q:Exit->Act->World->Prop),K (a.put o.dst x) w'->o.uponIn (qX σ0 ro) 0 P a K Q (.ok res w'))/\∀σ',Agree (l++r::e) D σ σ'->∃σ2,Post w0 σ' gv r.lo w σ2 (X3.mem gv r.lo) (X3.TL r.lo) w'/\Quiet X3 σ2 r.lo w w'/\af σ2 (X3.TL r.lo) r.v x:=by
   rcases hval with⟨x,rfl,_⟩ | ⟨rfl,hun⟩
   ·refine⟨x,fun K Q h=>h,fun σ' h=>?_⟩
    obtain⟨res2,w2,σ2,Nt,hp2,ZK,Ry⟩:=PQ σ' h
    rw [hrun] at Nt
    injection Nt with e1 e2
    subst e1 e2
    rcases Ry with⟨x2,e3,hx2⟩ | ⟨e3,_⟩
    ·injection e3 with e3;subst e3;exact⟨σ2,hp2,ZK,hx2⟩
    ·cases e3
   ·refine⟨undef,fun K Q h=>h,fun σ' h=>?_⟩
    obtain⟨res2,w2,σ2,Nt,hp2,ZK,Ry⟩:=PQ σ' h
    rw [hrun] at Nt
    injection Nt with e1 e2
    subst e1 e2
    rw [hun]
    exact⟨σ2,hp2,ZK,fI⟩
  obtain⟨x,hK,hall⟩:=Ry
  refine hK _ _ ?_
  rw [hdst]
  have b0:=hi.base
  have b1:=hp.base
  have e1:w'.os=w.os:=b1.os.trans b0.os.symm
  have e2:w'.tape=w.tape:=b1.tape.trans b0.tape.symm
  have e3:w'.output=w.output:=b1.output.trans b0.output.symm
  rcases heff with⟨rfl,hn⟩ | ⟨ac,rfl,hn,hg⟩
  ·refine⟨σ,JU hi hr hl hla he hok hch Sz hn hqt e1 e2 e3 fun σ' h=>?_⟩
   obtain⟨σ2,hp2,_,hx2⟩:=hall σ' h
   exact hx2.ext (Ux hp2.ext)
  ·refine Uy hi hr hl hla he hok hch Sz hn hg hp.keep.size hqt.2 e1 e2 e3 fun σ' h=>?_
   obtain⟨σ2,hp2,hq2,hx2⟩:=hall σ' h
   have hm:(Ef.push (.cells ac false)).mem gv r.lo r.lo=some (.cells ac false):=by simp [Ef.mem,Mem.push]
   obtain⟨_,O,hO,hrel⟩:=hp2.rel.ob r.lo _ hm
   rw [hq2.1] at hO
   exact⟨σ2,hp2.ext,hq2.1,⟨O,hO,hrel⟩,hx2⟩
structure UB (P:Program) (w0:World) (ro:Option Nat) (ops:Array Oper) (s:bY) (full:List Rec):Prop where
 pw:full.Pairwise jy
 ok:∀l r e,full=l++r::e->zF s r e
 all:∀i o,ops[i]?=some o->∃r∈full,r.i=i
 op:∀l r e,full=l++r::e->∃o,ops[r.i]?=some o/\o.dst=r.dst/\(∀ed∈o.after,Region.binds .any ed=true->∃b∈e,b.i=ed.on)/\
  (∀j,r.kK j=true->∃ed∈o.after,Region.binds .any ed=true/\(ed.on=j\/∃b∈e,b.i=ed.on/\b.kK j=true))/\Step P w0 ro ops s r e o
theorem UC {full l e:List Rec} {r:Rec} (h:full.Pairwise jy) (hf:full=l++r::e):(∀a∈l,jy a r)/\∀b∈e,jy r b:=by
 subst hf
 rw [List.pairwise_append,List.pairwise_cons] at h
 exact⟨fun a ha=>h.2.2 a ha r (by simp),h.2.1.1⟩
def cntF:List Bool->Nat
 | []=>0
 | b::l=>(if b then 0 else 1)+cntF l
theorem Nu:∀{l:List Bool} {i:Nat},l[i]?=some false->cntF (l.set i true)+1=cntF l
 | [],i,h=>by simp at h
 | b::l,0,h=>by simp at h;subst h;simp [cntF];omega
 | b::l,i+1,h=>by
  have:=Nu (l:=l) (i:=i) (by simpa using h)
  simp only [List.set_cons_succ,cntF]
  omega
theorem JV:∀{l:List Bool},cntF l=0->∀i:Nat,l[i]?≠some false
 | [],_,i,h=>by simp at h
 | b::l,h,0,hi=>by simp at hi;subst hi;simp [cntF] at h
 | b::l,h,i+1,hi=>by
  simp only [cntF] at h
  exact JV (l:=l) (by omega) i (by simpa using hi)
theorem UD (n:Nat):cntF (List.replicate n false)=n:=by
 induction n with
 | zero=>rfl
 | succ n ih=>rw [List.replicate_succ];simp only [cntF,ih];simp;omega
theorem UE {f0:Nat->AV×Nat} {D:Nat->Bool} {x:Nat}:∀{rs:List Rec},(∀r∈rs,D r.i=true)->tF f0 D rs x=tF f0 ou rs x
 | [],_=>rfl
 | r::rs,h=>by
  simp only [tF,ou,h r (by simp),true_and]
  have:=UE (f0:=f0) (x:=x) (rs:=rs) fun c hc=>h c (by simp [hc])
  rw [this]
theorem FX {m0:Nat->Option ax×Nat} {D:Nat->Bool} {d:Nat}:∀{rs:List Rec},(∀r∈rs,D r.i=true)->mF m0 D rs d=mF m0 ou rs d
 | [],_=>rfl
 | r::rs,h=>by
  simp only [mF,ou,h r (by simp),true_and]
  have:=FX (m0:=m0) (d:=d) (rs:=rs) fun c hc=>h c (by simp [hc])
  rw [this]
theorem X4 {f0:Nat->AV×Nat} {D:Nat->Bool} (h:∀i,D i=false) {x:Nat}:∀{rs:List Rec},tF f0 D rs x=f0 x
 | []=>rfl
 | r::rs=>by simp only [tF,h,Bool.false_eq_true,false_and,if_false];exact X4 h
theorem Rz {m0:Nat->Option ax×Nat} {D:Nat->Bool} (h:∀i,D i=false) {d:Nat}:∀{rs:List Rec},mF m0 D rs d=m0 d
 | []=>rfl
 | r::rs=>by simp only [mF,h,Bool.false_eq_true,false_and,if_false];exact Rz h
noncomputable def qH (s:bY) (full:List Rec) (N:Nat):bY:=⟨(List.range s.t.length).map fun x=>(tF (f0 s) ou full x).1,s.d,gT s full,N⟩
theorem RA {s:bY} {σ0 σ:aZ} {ws:World} {full:List Rec} {D:Nat->Bool} {a:Act} {w:World} {N:Nat} (hi:Inv w0 s σ0 ws full D σ a w) (hD:∀r∈full,D r.i=true) (hN:∀r∈full,r.hi<=N) (h0:s.N<=N)
  (hdl:∀q∈s.d,q < s.N) (hrl:∀l,ro=some l->l < s.N):Came w0 σ0 ro s ws σ (qH s full N) a w:=by
 have hmf:(fun d=>(mF (m0 s) D full d).1)=gT s full:=by funext d;rw [FX hD];rfl
 have hke:=hi.keep
 have hba:=hi.base
 rw [hmf] at hke hba
 refine⟨⟨ai.of (by simp [qH,hi.size]) fun x v u hv hu=>?_,?_,fun q hq=>Nat.lt_of_lt_of_le (hdl q hq) h0,fun q hq=>Nat.lt_of_lt_of_le (hrl q hq) h0⟩,⟨⟨h0,fun d hd=>(hi.ext d hd).1,fun d hd=>(hi.ext d hd).2⟩,hke,⟨fun d o h=>?_,fun d d' o o' h h' hro hat=>?_⟩,hba⟩⟩
 ·have hx:x < s.t.length:=by
   have:=(List.getElem?_eq_some_iff.1 hv).1
   simpa [qH] using this
  have hv':v=(tF (f0 s) ou full x).1:=by
   simp [qH,hx] at hv
   exact hv.symm
  have h1:=hi.tm σ (Agree.refl _ _ _) x hx
  rw [UE hD] at h1
  have hu':a.tmps.getD x undef=u:=by
   have:a.tmps[x]?=some u:=by simpa using hu
   simp [Array.getD_eq_getD_getElem?,this]
  rw [hu'] at h1
  rw [hv']
  exact h1.ext ⟨Ut h0 hN,fun _ _=>rfl,fun _ _=>rfl⟩
 ·rw [hi.ng]
  exact List.map_congr_left fun q hq=>by rw [(hi.ext q (hdl q hq)).1]
 ·have h':(mF (m0 s) D full d).1=some o:=by rw [FX hD];exact h
  obtain⟨m1,_,O,hO,hrel⟩:=hi.mm d o h'
  have hle:(mF (m0 s) D full d).2<=N:=Uu h0 hN
  exact⟨Nat.lt_of_lt_of_le m1 hle,O,hO,(hrel σ (Agree.refl _ _ _)).ext ⟨hle,fun _ _=>rfl,fun _ _=>rfl⟩⟩
 ·exact hi.inj d d' o o' (by rw [FX hD];exact h) (by rw [FX hD];exact h') hro hat
theorem SA {s:bY} {σ:aZ} {w w':World} {a:Act} {full:List Rec} {D:Nat->Bool} (m:IZ w0 σ ro s a w) (hD:∀i,D i=false) (hlo:∀r∈full,s.N<=r.lo) (hh:w'.heap=w.heap) (h1:w'.os=w.os) (h2:w'.tape=w.tape) (h3:w'.output=w.output):Inv w0 s σ w full D σ a w':=by
 have hop:∀d,d < s.N->¬Open full D d:=by
  rintro d hd ⟨r,hr,_,q,_⟩
  have:=hlo r hr;omega
 have hmf:(fun d=>(mF (m0 s) D full d).1)=s.g:=by funext d;rw [Rz hD];rfl
 refine⟨by simpa using m.loc.t.length.symm,fun σ' h x hx=>?_,fun d o h=>?_,fun d e o o' h h' hro hat=>?_,?_,?_,fun _ _=>⟨rfl,rfl⟩,m.loc.d⟩
 ·rw [X4 hD]
  have:af σ s.N (slot s.t x) (a.tmps.getD x undef):=aN m.loc.t (.tmp x)
  exact this.ext ⟨Nat.le_refl _,fun d hd=>(h d (hop d hd)).1,fun d hd=>(h d (hop d hd)).2⟩
 ·rw [Rz hD] at h ⊢
  obtain⟨hN,O,hO,hr⟩:=m.rel.ob d o h
  exact⟨hN,hop d hN,O,by rw [hh];exact hO,fun σ' h'=>hr.ext ⟨Nat.le_refl _,fun d hd=>(h' d (hop d hd)).1,fun d hd=>(h' d (hop d hd)).2⟩⟩
 ·rw [Rz hD] at h h'
  exact m.rel.inj d e o o' h h' hro hat
 ·rw [hmf]
  have b:=m.base
  exact⟨h1.trans b.os,h2.trans b.tape,h3.trans b.output,by rw [hh];exact b.size,fun q hq=>by rw [hh];exact b.block q hq,b.wr⟩
 ·rw [hmf]
  exact⟨by rw [hh];exact Nat.le_refl _,fun q hq hw=>⟨by rw [hh],hw⟩,fun q hq hw=>hw⟩
theorem FY {ops:Array Oper} {s:bY} {full:List Rec} {σ0:aZ} {ws:World} {N:Nat} {Q:bY->Prop} {R:Exit->Act->World->Prop} (hc:UB P w0 ro ops s full) (hN:∀r∈full,r.hi<=N) (h0:s.N<=N) (Ns:∀d o,s.g d=some o->d < s.N)
  (hdl:∀q∈s.d,q < s.N) (hrl:∀l,ro=some l->l < s.N) (hR:∀σ a w,Came w0 σ0 ro s ws σ (qH s full N) a w->R .normal a w):
  ∀(fuel:Nat) (listed:Array Bool) (σ:aZ) (a:Act) (w:World),listed.size=ops.size->cntF listed.toList=fuel->(∀r∈full,listed.getD r.i false=true->∀j,r.kK j=true->listed.getD j false=true)->
   Inv w0 s σ0 ws full (fun i=>listed.getD i false) σ a w->wpAnyIn (qX σ0 ro) 0 P .any ops R fuel listed a w:=by
 have hlt:∀r∈full,r.i < ops.size:=fun r hr=>by
  obtain⟨l,e,hf⟩:=List.append_of_mem hr
  obtain⟨o,ho,_⟩:=hc.op l r e hf
  exact(Array.getElem?_eq_some_iff.1 ho).1
 have WO:∀(listed:Array Bool) (i:Nat),i < listed.size->listed.getD i false=false->listed[i]?=some false/\listed.getD i true=false:=by
  intro listed i hi h
  have:listed[i]?=some listed[i]:=Array.getElem?_eq_getElem hi
  rw [Array.getD_eq_getD_getElem?,this] at h
  simp at h
  rw [this,Array.getD_eq_getD_getElem?,this]
  simp [h]
 have JW:∀(listed:Array Bool),listed.size=ops.size->Region.ready .any ops listed=[]->∀r∈full,listed.getD r.i false=true:=by
  intro listed hsz hrd
  have:∀(e l:List Rec),full=l++e->∀r∈e,listed.getD r.i false=true:=by
   intro e
   induction e with
   | nil=>intro l _ r hr;cases hr
   | cons b e ih=>
    intro l hf
    have ih:=ih (l++[b]) (by rw [hf];simp)
    intro r hr
    rcases List.mem_cons.1 hr with rfl | hr
    ·cases hD:listed.getD r.i false with
     | true=>rfl
     | false=>
      exfalso
      obtain⟨o,ho,_,haft,_⟩:=hc.op l r e hf
      have hmem:r.i∈Region.ready .any ops listed:=mem_ready.2 ⟨(WO listed r.i (by rw [hsz];exact(Array.getElem?_eq_some_iff.1 ho).1) hD).2,o,ho,fun ed MM hb=>by
       obtain⟨b,hb1,hb2⟩:=haft ed MM hb
       rw [<- hb2];exact ih b hb1⟩
      rw [hrd] at hmem
      cases hmem
    ·exact ih r hr
  exact this full [] rfl
 intro fuel
 induction fuel with
 | zero=>
  intro listed σ a w hsz hcnt hcl hi
  have hz:=JV hcnt
  have hrd:Region.ready .any ops listed=[]:=by
   apply List.eq_nil_iff_forall_not_mem.2
   intro j hj
   obtain⟨h1,o,ho,_⟩:=mem_ready.1 hj
   have hjl:j < listed.size:=by rw [hsz];exact(Array.getElem?_eq_some_iff.1 ho).1
   have:listed[j]?=some listed[j]:=Array.getElem?_eq_getElem hjl
   rw [Array.getD_eq_getD_getElem?,this] at h1
   simp at h1
   exact hz j (by rw [<- Array.getElem?_toList] at this;rw [this,h1])
  exact⟨hrd,hR σ a w (RA hi (JW listed hsz hrd) hN h0 hdl hrl)⟩
 | succ fuel ih=>
  intro listed σ a w hsz hcnt hcl hi
  refine⟨fun hrd=>hR σ a w (RA hi (JW listed hsz hrd) hN h0 hdl hrl),fun i hmem=>?_⟩
  obtain⟨h1,o,ho,hbind⟩:=mem_ready.1 hmem
  obtain⟨r,hr,rfl⟩:=hc.all i o ho
  obtain⟨l,e,hf⟩:=List.append_of_mem hr
  obtain⟨o',ho',hdst,haft,oN,hst⟩:=hc.op l r e hf
  rw [ho] at ho'
  injection ho' with ho'
  subst ho'
  have hil:r.i < listed.size:=by rw [hsz];exact hlt r hr
  have hlf:listed[r.i]?=some false:=by
   have:listed[r.i]?=some listed[r.i]:=Array.getElem?_eq_getElem hil
   rw [Array.getD_eq_getD_getElem?,this] at h1
   simp at h1
   rw [this,h1]
  have hDr:listed.getD r.i false=false:=by rw [Array.getD_eq_getD_getElem?,hlf];rfl
  have X5:∀j,r.kK j=true->listed.getD j false=true:=by
   intro j hj
   obtain⟨ed,MM,hb,h⟩:=oN j hj
   have h2:=hbind ed MM hb
   rcases h with rfl | ⟨b,hb1,hb2,hb3⟩
   ·exact h2
   ·exact hcl b (by rw [hf];simp [hb1]) (by rw [hb2];exact h2) j hb3
  obtain⟨p1,p2⟩:=UC hc.pw hf
  have hla:∀a∈l,listed.getD a.i false=true->a.kK r.i=false:=fun a ha hD=>by
   cases h:a.kK r.i with
   | false=>rfl
   | true=>have:=hcl a (by rw [hf];simp [ha]) hD r.i h;rw [hDr] at this;cases this
  have Sz:∀a∈l,a.ch=false->∀d,a.qY d=true->a.lo<=d/\d < a.hi/\∀o,a.g' d=some o->o.ro=false:=fun a ha=>by
   obtain⟨l1,l2,hl⟩:=List.append_of_mem ha
   exact(hc.ok l1 a (l2++r::e) (by rw [hf,hl];simp)).ZI
  have hes:∀b∈e,∀d o,b.g' d=some o->d < b.hi:=fun b hb=>by
   obtain⟨l1,l2,hl⟩:=List.append_of_mem hb
   exact(hc.ok (l++r::l1) b l2 (by rw [hf,hl];simp)).supp
  subst hf
  have hstep:=Uz (R:=R) hi hDr X5 p1 hla p2 (hc.ok l r e rfl) Sz hes Ns hdl hrl ho hdst hst
  refine wpOpIn_mono (fun a' w' h=>?_) hstep
  obtain⟨σ',hi'⟩:=h
  have hD':(fun i=>(listed.setIfInBounds r.i true).getD i false)=dU (fun i=>listed.getD i false) r.i:=by
   funext j
   by_cases hj:r.i=j
   ·subst hj
    simp [dU,Array.getD_eq_getD_getElem?,hil]
   ·have:(j==r.i)=false:=by simpa using fun q=>hj q.symm
    simp [dU,Array.getD_eq_getD_getElem?,Array.getElem?_setIfInBounds_ne hj,this]
  refine ih _ σ' a' w' (by simp [hsz]) ?_ ?_ (by rw [hD'];exact hi')
  ·have:=Nu (l:=listed.toList) (i:=r.i) (by rw [Array.getElem?_toList];exact hlf)
   rw [Array.toList_setIfInBounds]
   omega
  ·intro q hq hD j hj
   have e1:=congrFun hD' q.i
   have e2:=congrFun hD' j
   rw [e2]
   rw [e1] at hD
   simp only [dU,Bool.or_eq_true,beq_iff_eq] at hD ⊢
   rcases hD with hD | hD
   ·exact .inl (hcl q hq hD j hj)
   ·left
    have:q=r:=by
     rcases List.mem_append.1 hq with hq | hq
     ·exact absurd hD (p1 q hq).ne
     ·rcases List.mem_cons.1 hq with rfl | hq
      ·rfl
      ·exact absurd hD.symm (p2 q hq).ne
    subst this
    exact X5 j hj
theorem AW.draw {ops:Array Oper} {id:Nat} {s:bY} {Q:Exit->bY->Prop} {full:List Rec} {N:Nat} (hm:P.follows .mixedOrders=true) (hc:UB P w0 ro ops s full) (hN:∀r∈full,r.hi<=N) (h0:s.N<=N) (hlo:∀r∈full,s.N<=r.lo) (hq:Q .normal (qH s full N)):AW P w0 ro (.region id ops true) Q s:=fun σ a w m=>by
 have hrep:∀i,(Array.replicate ops.size false).getD i false=false:=fun i=>by
  rw [Array.getD_eq_getD_getElem?]
  by_cases h:i < ops.size
  ·simp [h]
  ·simp [h]
 refine wpIn_region_any hm (FY (Q:=Q .normal) hc hN h0 (fun d o h=>(m.rel.ob d o h).1) m.loc.dl m.loc.rl (fun σ' a' w' c=>⟨_,σ',hq,c⟩) ops.size _ σ a _ (by simp) (by simpa using UD ops.size) (fun r _ h=>by rw [hrep] at h;cases h) ?_)
 exact SA m hrep hlo rfl rfl rfl rfl
end
end Go.AM
