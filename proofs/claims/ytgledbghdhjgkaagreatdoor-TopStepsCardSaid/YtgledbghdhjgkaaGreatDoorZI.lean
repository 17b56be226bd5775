/-
  A part of the proof that TopSteps answers true for every input that can be read as data.
-/
import Derived.Test.YtgledbghdhjgkaaGreatDoorZH
import Derived.Test.YtgledbghdhjgkaaGreatDoorZF
import Derived.OrdersIn
set_option linter.unusedSimpArgs false
set_option linter.unusedVariables false
namespace Go.TM
open Go Go.RowKit Go.AM
def mo (SP:Spec):Prop:=∀f l,∃(pre:Prop) (U:TV->Prop),(∀K,SP f l K↔pre/\∀v,U v->K v)/\(pre->∃v,U v)
def Pn (ops:List Oper) (R:List (Nat×Nat)) (o:Oper):rf->Prop
 | .val v=>∀e k d,v= .aac e k->o.dst=some d->(d,e)∈R/\e∈looks ops R o
 | .new _=>True
 | .st e _=>o.dst=none/\e∈turns R o
def GJ (S:Nat):Option Nat->Prop
 | none=>True
 | some d=>Nat.testBit S d=true
theorem jU {S:Nat} {v:TV} {t:List TV} {d:Option Nat} {k:List TV->Prop}:Cb S v t d k↔GJ S d/\k (eG t d v):=by
 cases d with
 | none=>exact⟨fun h=>⟨trivial,h⟩,fun h=>h.2⟩
 | some d=>
  show lL S d (fU v fun v=>dK v t d k)↔_
  rw [bV,gK,bH];exact Iff.rfl
section
variable {X:Nat->Option XK} {Y:iM} {SP:Spec} {an:Nat->Option (List TV)}
theorem Ad {v:TV} {e k:Nat} (h:v.zL= .aac e k):False:=by cases v<;>cases h
theorem OC {ops:List Oper} {R:List (Nat×Nat)} {t:List TV} {o:Oper} {off:Nat} {x:Operand} {e k d:Nat} (hR:vV R t) (hx:x∈o.op.operands.toList) (hd:o.dst=some d) (hro:∀e,e∈iV x++jF R (iV x)->(d,e)∈R) (h:zO t off x=some (.aac e k)):(d,e)∈R/\e∈looks ops R o:=by
 have look:∀a,x= .tmp a->(e=a\/(a,e)∈R)->e∈iV x++jF R (iV x)/\e∈looks ops R o:=fun a ha he=>by
  subst ha
  have hm:=jT hx
  rcases he with rfl | he
  ·exact⟨by simp [iV],by unfold looks;simp [hm]⟩
  ·refine⟨List.mem_append_right _ (jq.2 ⟨a,by simp [iV],he⟩),?_⟩
   unfold looks
   exact List.mem_append_right _ (jq.2 ⟨a,List.mem_append_right _ hm,he⟩)
 unfold zO at h
 split at h
 ·rename_i a
  split at h
  ·injection h with h;injection h with h1 h2;subst h1
   obtain⟨q1,q2⟩:=look _ rfl (.inl rfl)
   exact⟨hro _ q1,q2⟩
  ·rename_i f o' hs
   split at h
   ·injection h with h;injection h with h1 h2;subst h1
    obtain⟨q1,q2⟩:=look _ rfl (.inr (hR _ _ _ hs))
    exact⟨hro _ q1,q2⟩
   ·cases h
  ·split at h
   ·injection h with h;cases h
   ·cases h
  ·cases h
 ·cases h
theorem RU {ops:List Oper} {R:List (Nat×Nat)} {t:List TV} {o:Oper} {c:Cs} {u:rf} (hR:vV R t) (hro:∀p∈jG R o,p∈R) (h:top Y an t o=some (c,u)):Pn ops R o u:=by
 have pl:(I8 Y an t o).map (fun r=>(r.1,rf.val r.2.zL))=some (c,u)->Pn ops R o u:=fun h=>by
  obtain⟨r,_,hr⟩:=Option.map_eq_some_iff.1 h
  injection hr with _ hu;subst hu
  intro e k d he
  exact(Ad he).elim
 unfold top at h
 split at h
 ·split at h
  ·split at h
   ·injection h with h;injection h with _ h;subst h;trivial
   ·cases h
  ·cases h
 ·split at h
  ·split at h
   ·split at h
    ·split at h
     ·obtain⟨v,_,hr⟩:=Option.map_eq_some_iff.1 h
      injection hr with _ hu;subst hu
      intro e k d he;cases he
     ·injection h with h;injection h with _ h;subst h
      intro e k d he;cases he
    ·injection h with h;injection h with _ h;subst h;trivial
   ·cases h
  ·cases h
 ·split at h
  ·split at h
   ·unfold UT at h
    split at h
    ·injection h with h;injection h with _ hu;subst hu
     intro e k d he;cases he
    ·cases h
   ·obtain⟨v,_,hr⟩:=Option.map_eq_some_iff.1 h
    injection hr with _ hu;subst hu
    intro e k d he
    exact(Ad he).elim
  ·cases h
 ·rename_i ty a x ho
  split at h
  ·rename_i k hd hdst
   have tr:∀e,e∈iV a++jF R (iV a)->e∈turns R o:=fun e he=>by
    unfold turns;rw [ho];exact List.mem_append_right _ he
   unfold Ca at h
   split at h
   ·rename_i d
    split at h
    ·split at h
     ·split at h
      ·injection h with h;injection h with _ h;subst h
       exact⟨hdst,tr _ (by simp [iV])⟩
      ·cases h
     ·rename_i e o' hs
      split at h
      ·split at h
       ·injection h with h;injection h with _ h;subst h
        exact⟨hdst,tr _ (List.mem_append_right _ (jq.2 ⟨d,by simp [iV],hR _ _ _ hs⟩))⟩
       ·cases h
      ·cases h
     ·obtain⟨c',_,hr⟩:=Option.map_eq_some_iff.1 h
      injection hr with _ hu;subst hu
      intro e k d he;cases he
     ·cases h
    ·cases h
   ·cases h
  ·cases h
 ·rename_i s x f ho
  split at h
  ·obtain⟨v,hv,hr⟩:=Option.map_eq_some_iff.1 h
   injection hr with _ hu;subst hu
   intro e k d he hd
   subst he
   exact OC hR (by simp [ho,Op.operands]) hd (fun e' he'=>hro _ (by unfold jG;rw [ho,hd];exact List.mem_map.2 ⟨e',he',rfl⟩)) hv
  ·cases h
 ·rename_i ty x ix ho
  split at h
  ·split at h
   ·split at h
    ·obtain⟨v,hv,hr⟩:=Option.map_eq_some_iff.1 h
     injection hr with _ hu;subst hu
     intro e k d he hd
     subst he
     exact OC hR (by simp [ho,Op.operands]) hd (fun e' he'=>hro _ (by unfold jG;rw [ho,hd];exact List.mem_map.2 ⟨e',he',rfl⟩)) hv
    ·cases h
   ·cases h
  ·exact pl h
 ·exact pl h
theorem Xr (x:XK) (args:List TV):∃(pre:Prop) (U:TV->Prop),(∀K,En x args K↔pre/\∀v,U v->K v)/\(pre->∃v,U v):=by
 have bad:(∀K,En x args K↔False)->∃(pre:Prop) (U:TV->Prop),(∀K,En x args K↔pre/\∀v,U v->K v)/\(pre->∃v,U v):=fun h=>⟨False,fun _=>False,fun K=>by rw [h K];exact⟨fun h=>h.elim,fun h=>h.1⟩,fun h=>h.elim⟩
 have two:∀(p:Prop) (v:TV),(∀K,En x args K↔p/\K v)->∃(pre:Prop) (U:TV->Prop),(∀K,En x args K↔pre/\∀v,U v->K v)/\(pre->∃v,U v):=fun p v h=>⟨p,(·=v),fun K=>by rw [h K];exact⟨fun h=>⟨h.1,fun u hu=>hu▸h.2⟩,fun h=>⟨h.1,h.2 v rfl⟩⟩,fun _=>⟨v,rfl⟩⟩
 have one:∀v:TV,(∀K,En x args K↔K v)->∃(pre:Prop) (U:TV->Prop),(∀K,En x args K↔pre/\∀v,U v->K v)/\(pre->∃v,U v):=fun v h=>two True v fun K=>by rw [h K];simp
 have three:∀(p q:Prop) (v:TV),(∀K,En x args K↔p/\q/\K v)->∃(pre:Prop) (U:TV->Prop),(∀K,En x args K↔pre/\∀v,U v->K v)/\(pre->∃v,U v):=fun p q v h=>two (p/\q) v fun K=>by rw [h K,and_assoc]
 have carry:∀(a b:TV) (c:Int),∃(pre:Prop) (U:TV->Prop),(∀K,F9 a b c K↔pre/\∀v,U v->K v)/\(pre->∃v,U v):=fun a b c=>
  ⟨U64 a/\U64 b/\0<=c/\c<=1,(·= .aF [.i .u64 none, .rg .u64 1]),fun K=>by
   rw [yx]
   exact⟨fun h=>⟨⟨h.1,h.2.1,h.2.2.1,h.2.2.2.1⟩,fun v hv=>hv▸h.2.2.2.2⟩,fun h=>⟨h.1.1,h.1.2.1,h.1.2.2.1,h.1.2.2.2,h.2 _ rfl⟩⟩,fun _=>⟨_,rfl⟩⟩
 by_cases hx:x= .zi\/x= .zk
 ·rcases args with _ | ⟨a,_ | ⟨b,_ | ⟨c,_ | ⟨d,r⟩⟩⟩⟩<;>rcases hx with rfl | rfl<;>first | exact bad fun K=>Iff.rfl | skip
  all_goals cases c<;>first | exact bad fun K=>Iff.rfl | skip
  all_goals rename_i k n
  all_goals cases k<;>cases n<;>first | exact bad fun K=>Iff.rfl | exact carry _ _ _
 have hx1:x≠ .zi:=fun h=>hx (.inl h)
 have hx2:x≠ .zk:=fun h=>hx (.inr h)
 cases x<;>first | exact absurd rfl hx1 | exact absurd rfl hx2 | skip
 all_goals rcases args with _ | ⟨a,_ | ⟨b,r⟩⟩<;>first | exact bad fun K=>Iff.rfl | skip
 all_goals cases a<;>first | exact bad fun K=>Iff.rfl | exact one _ fun K=>Iff.rfl | skip
 all_goals rename_i k n
 all_goals cases k<;>cases n<;>first | exact bad fun K=>Iff.rfl | exact one _ fun K=>Iff.rfl | exact three _ _ _ fun K=>Iff.rfl
theorem Vu (hS:mo SP) (args:List TV) (F:TV):∃(pre:Prop) (U:TV->Prop),(∀K,NW X SP args K F↔pre/\∀v,U v->K v)/\(pre->∃v,U v):=by
 unfold NW
 split
 ·split
  ·exact Xr _ _
  ·simp only [fV]
   exact hS _ _
 ·exact⟨False,fun _=>False,fun K=>⟨fun h=>h.elim,fun h=>h.1⟩,fun h=>h.elim⟩
def Z0 (S:Nat) (d:Option Nat):rf->Prop
 | .val _=>GJ S d
 | .new _=>∃e,d=some e/\Nat.testBit S e=true
 | .st e _=>Nat.testBit S e=true
theorem Vv {S:Nat} {t:List TV} {d:Option Nat} {u:rf} {k:List TV->Prop}:Xb S t d u k↔Z0 S d u/\k (u.app t d):=by
 cases u with
 | val v=>exact jU
 | new cs=>
  cases d with
  | none=>exact⟨fun h=>h.elim,fun⟨⟨e,q,_⟩,_⟩=>by cases q⟩
  | some d=>
   show lL S d (lK cs fun cs=>RJ d t fun t=>dK (.ow cs) t d k)↔_
   rw [bV,fV,Gn,bH]
   exact⟨fun h=>⟨⟨d,rfl,h.1⟩,h.2⟩,fun⟨⟨e,q,h⟩,h2⟩=>by injection q with q;subst q;exact⟨h,h2⟩⟩
 | st e cs=>
  show lL S e (lK cs fun cs=>dK (.ow cs) t e k)↔_
  rw [bV,fV,bH];exact Iff.rfl
theorem Z5 {S:Nat} {d:Option Nat} {u:rf} (h:Z0 S d u) (hs:∀e cs,u= .st e cs->d=none):GJ S d:=by
 cases u with
 | val v=>exact h
 | new cs=>obtain⟨e,rfl,h⟩:=h;exact h
 | st e cs=>rw [hs e cs rfl];trivial
theorem Z6 {op:BinOp} {x y:TV} {k:IntKind} {c:Cs} {hi:Int} {oy:Operand} (h:nA op x y oy=some (k,c,hi)) (hc:aS.ok c):0<=hi:=by
 unfold nA at h
 split at h
 ·split at h
  ·split at h
   ·simp only [Option.some.injEq,Prod.mk.injEq] at h
    obtain⟨rfl,rfl,rfl⟩:=h
    exact(aS.aA.1 hc).1
   ·cases h
  ·cases h
 ·split at h
  rotate_left
  ·cases h
  split at h
  ·split at h
   ·simp only [Option.some.injEq,Prod.mk.injEq] at h
    obtain⟨rfl,rfl,rfl⟩:=h
    exact Int.natCast_nonneg _
   ·cases h
  ·cases h
 ·cases h
theorem RV (ok:Bool) (x:TV):∀(ks:List Value) (vs:List TV),∃(pre:Prop) (U:TV->Prop),(∀K,Qb ok x K ks vs↔pre/\∀v,U v->K v)/\(pre->∃v,U v)
 | [],vs=>⟨False,fun _=>False,fun K=>⟨fun h=>h.elim,fun h=>h.1⟩,fun h=>h.elim⟩
 | k::ks,[]=>⟨False,fun _=>False,fun K=>⟨fun h=>h.elim,fun h=>h.1⟩,fun h=>h.elim⟩
 | k::ks,a::vs=>by
  cases hp:NR x k with
  | none=>exact⟨False,fun _=>False,fun K=>by simp only [Qb,hp];exact⟨fun h=>h.elim,fun h=>h.1⟩,fun h=>h.elim⟩
  | some p=>
   obtain⟨pre,U,h1,h2⟩:=RV ok x ks vs
   refine⟨p\/pre,fun v=>(p/\v=(bif ok then .aF [a, .b (some true)] else a))\/(¬p/\U v),fun K=>?_,fun h=>?_⟩
   ·simp only [Qb,hp]
    rw [h1]
    by_cases hq:p
    ·simp [hq]
    ·simp [hq]
   ·by_cases hq:p
    ·exact⟨_, .inl ⟨hq,rfl⟩⟩
    ·rcases h with h | h
     ·exact absurd h hq
     ·obtain⟨v,hv⟩:=h2 h
      exact⟨v, .inr ⟨hq,hv⟩⟩
theorem Z7 (hS:mo SP) {S:Nat} {ops:List Oper} {R:List (Nat×Nat)} {o:Oper} {t:List TV} (hR:vV R t) (hro:∀p∈jG R o,p∈R):∃(pre:Prop) (U:rf->Prop),(∀t',zg ops o t t'->∀K,ZR X Y SP an S o t' K↔pre/\∀u,U u->K (u.app t' o.dst))/\(pre->∃u,U u)/\(∀u,U u->Pn ops R o u)/\(pre->GJ S o.dst):=by
 have rest:∃(pre:Prop) (U:rf->Prop),(∀t',zg ops o t t'->∀K,SN S t' o.dst K (top Y an t' o)↔pre/\∀u,U u->K (u.app t' o.dst))/\(pre->∃u,U u)/\(∀u,U u->Pn ops R o u)/\(pre->GJ S o.dst):=by
  cases h:top Y an t o with
  | none=>exact⟨False,fun _=>False,fun t' ha K=>by rw [Kw ha,h];exact⟨fun h=>h.elim,fun h=>h.1⟩,fun h=>h.elim,fun u hu=>hu.elim,fun h=>h.elim⟩
  | some r=>
   obtain⟨c,u⟩:=r
   refine⟨aS.ok c/\Z0 S o.dst u,(·=u),fun t' ha K=>?_,fun _=>⟨u,rfl⟩,fun v hv=>by subst hv;exact RU hR hro h,fun hb=>Z5 hb.2 fun e cs q=>by have:=RU (ops:=ops) hR hro h;rw [q] at this;exact this.1⟩
   rw [Kw ha,h]
   show PZ c (Xb S t' o.dst u K)↔_
   rw [fZ,Vv]
   exact⟨fun h=>⟨⟨h.1,h.2.1⟩,fun v hv=>hv▸h.2.2⟩,fun h=>⟨h.1.1,h.1.2,h.2 u rfl⟩⟩
 unfold ZR
 cases ho:o.op with
 | call c=>
  obtain⟨callee,args,Y7⟩:=c
  cases callee with
  | value f=>
   obtain⟨pre,U,h1,h2⟩:=Vu (X:=X) hS (args.toList.map (dw t)) (ev t f)
   refine⟨pre/\GJ S o.dst,fun u=>∃v,U v/\u= .val v.zL,fun t' ha K=>?_,fun h=>?_,fun u hu=>?_,fun h=>h.2⟩
   ·have e1:args.toList.map (dw t')=args.toList.map (dw t):=ha.evpsE fun x hx=>by simp [ho,Op.operands,Call.operands];exact .inr (Array.mem_toList_iff.1 hx)
    have e2:ev t' f=ev t f:=ha.evE (by simp [ho,Op.operands,Call.operands])
    show NW X SP (args.toList.map (dw t')) (fun v=>Cb S v.zL t' o.dst K) (ev t' f)↔_
    rw [e1,e2,h1]
    simp only [jU]
    constructor
    ·rintro⟨p,h⟩
     obtain⟨v,hv⟩:=h2 p
     exact⟨⟨p,(h v hv).1⟩,fun u ⟨v,hv,hu⟩=>by subst hu;exact(h v hv).2⟩
    ·rintro⟨⟨p,q⟩,h⟩
     exact⟨p,fun v hv=>⟨q,h _ ⟨v,hv,rfl⟩⟩⟩
   ·obtain⟨v,hv⟩:=h2 h.1
    exact⟨_,v,hv,rfl⟩
   ·obtain⟨v,_,rfl⟩:=hu
    intro e k d he
    exact(Ad he).elim
  | _=>exact rest
 | binOp op ty x y lz=>
  have e1:∀t',zg ops o t t'->vI Y op ty (dw t' x) y=vI Y op ty (dw t x) y:=fun t' ha=>by rw [ha.GH (x:=x) (by simp [ho,Op.operands])]
  cases hn:vI Y op ty (dw t x) y with
  | none=>
   have e2:∀t',zg ops o t t'->nA op (dw t' x) (dw t' y) y=nA op (dw t x) (dw t y) y:=fun t' ha=>by rw [ha.GH (x:=x) (by simp [ho,Op.operands]),ha.GH (x:=y) (by simp [ho,Op.operands])]
   cases hr:nA op (dw t x) (dw t y) y with
   | none=>
    obtain⟨pre,U,h1,h2⟩:=rest
    refine⟨pre,U,fun t' ha K=>?_,h2⟩
    simp only [e1 t' ha,hn,e2 t' ha,hr]
    exact h1 t' ha K
   | some q=>
    obtain⟨k,c,hi⟩:=q
    by_cases hz:0<=hi
    ·refine⟨aS.ok c/\GJ S o.dst,fun u=>∃r:Int,(0<=r/\r<=hi)/\u= .val (.i k (some r)),fun t' ha K=>?_,fun _=>⟨_,0,by omega,rfl⟩,fun u hu=>?_,fun h=>h.2⟩
     ·simp only [e1 t' ha,hn,e2 t' ha,hr,fZ,jU]
      constructor
      ·rintro⟨h1,h2⟩
       exact⟨⟨h1,(h2 0 (by omega) hz).1⟩,fun u ⟨r,hr,hu⟩=>by subst hu;exact(h2 r hr.1 hr.2).2⟩
      ·rintro⟨⟨h1,h2⟩,h3⟩
       exact⟨h1,fun r r1 r2=>⟨h2,h3 _ ⟨r,⟨r1,r2⟩,rfl⟩⟩⟩
     ·obtain⟨r,_,rfl⟩:=hu
      intro e k d he;cases he
    ·refine⟨False,fun _=>False,fun t' ha K=>?_,fun h=>h.elim,fun u hu=>hu.elim,fun h=>h.elim⟩
     simp only [e1 t' ha,hn,e2 t' ha,hr,fZ]
     constructor
     ·rintro⟨h1,_⟩
      exact absurd (Z6 hr h1) hz
     ·exact fun h=>h.1.elim
  | some n=>
   refine⟨GJ S o.dst,fun u=>(n=0/\u= .val (.b (some true)))\/u= .val (.b (some false)),fun t' ha K=>?_,fun _=>⟨_, .inr rfl⟩,fun u hu=>?_,fun h=>h⟩
   ·simp only [e1 t' ha,hn,jU]
    constructor
    ·rintro⟨h1,h2,h3⟩
     refine⟨h2,fun u hu=>?_⟩
     rcases hu with⟨q,rfl⟩ | rfl
     ·exact(h1 q).2
     ·exact h3
    ·rintro⟨h1,h2⟩
     exact⟨fun q=>⟨h1,h2 _ (.inl ⟨q,rfl⟩)⟩,h1,h2 _ (.inr rfl)⟩
   ·rcases hu with⟨_,rfl⟩ | rfl<;>(intro e k d he;cases he)
 | lookup ty m x ok=>
  have e1:∀t',zg ops o t t'->Kb Y ty (dw t' m)=Kb Y ty (dw t m):=fun t' ha=>by rw [ha.GH (x:=m) (by simp [ho,Op.operands])]
  have e2:∀t',zg ops o t t'->dw t' x=dw t x:=fun t' ha=>ha.GH (x:=x) (by simp [ho,Op.operands])
  cases hn:Kb Y ty (dw t m) with
  | none=>
   obtain⟨pre,U,h1,h2⟩:=rest
   refine⟨pre,U,fun t' ha K=>?_,h2⟩
   simp only [e1 t' ha,hn]
   exact h1 t' ha K
  | some q=>
   obtain⟨ks,vs⟩:=q
   obtain⟨pre,U,h1,h2⟩:=RV ok (dw t x) ks vs
   refine⟨pre/\GJ S o.dst,fun u=>∃v,U v/\u= .val v.zL,fun t' ha K=>?_,fun h=>?_,fun u hu=>?_,fun h=>h.2⟩
   ·simp only [e1 t' ha,hn,e2 t' ha]
    rw [h1]
    simp only [jU]
    constructor
    ·rintro⟨p,h⟩
     obtain⟨v,hv⟩:=h2 p
     exact⟨⟨p,(h v hv).1⟩,fun u ⟨v,hv,hu⟩=>by subst hu;exact(h v hv).2⟩
    ·rintro⟨⟨p,q⟩,h⟩
     exact⟨p,fun v hv=>⟨q,h _ ⟨v,hv,rfl⟩⟩⟩
   ·obtain⟨v,hv⟩:=h2 h.1
    exact⟨_,v,hv,rfl⟩
   ·obtain⟨v,_,rfl⟩:=hu
    intro e k d he
    exact(Ad he).elim
 | _=>exact rest
def BF (G:List Nat) (n:Nat) (d:Option Nat) (u u':rf):Prop:=match d with
 | none=>u'=u
 | some d=>match Nat.blt d n with
  | false=>u'=u
  | true=>match u with
   | .val (.b none)=>(match bK G d with
    | true=>u'= .val (.b (some true))\/u'= .val (.b (some false))
    | false=>u'=u)
   | .val (.bp p)=>(match bK G d with
    | true=>(p/\u'= .val (.b (some true)))\/(¬p/\u'= .val (.b (some false)))
    | false=>u'=u)
   | .val (.i k none)=>∃v,Wp (.i k none) v/\u'= .val v
   | .val (.s T none)=>∃v,Wp (.s T none) v/\u'= .val v
   | .val (.rg q m)=>∃v,Wp (.rg q m) v/\u'= .val v
   | .val (.agg cs)=>∃v,Wp (.agg cs) v/\u'= .val v
   | .val (.aF cs)=>∃v,Wp (.aF cs) v/\u'= .val v
   | _=>u'=u
theorem GK {t:List TV} {d:Nat} {v:TV} (h:d < t.length):slot (t.set d v) d=v:=by
 rw [dR,List.getD_eq_getElem?_getD,List.getElem?_set_self h];rfl
theorem GL {t:List TV} {d:Nat} (h:¬d < t.length):slot t d= .bg:=by
 rw [dR,List.getD_eq_getElem?_getD,List.getElem?_eq_none (by omega)];rfl
theorem OD {S:Nat} {G:List Nat} {t:List TV} {d:Option Nat} {u:rf} {K:List TV->Prop} (hb:GJ S d) (hs:∀e cs,u= .st e cs->d=none):gD S G d (u.app t d) K↔∀u',BF G t.length d u u'->K (u'.app t d):=by
 cases d with
 | none=>exact⟨fun h u' hu=>by subst hu;exact h,fun h=>h u rfl⟩
 | some d=>
  have hb:Nat.testBit S d=true:=hb
  have same:(∀u',BF G t.length (some d) u u'↔u'=u)->(gD S G (some d) (u.app t (some d)) K↔K (u.app t (some d)))->(gD S G (some d) (u.app t (some d)) K↔∀u',BF G t.length (some d) u u'->K (u'.app t (some d))):=fun h1 h2=>
   h2.trans ⟨fun h u' hu=>by rw [(h1 u').1 hu];exact h,fun h=>h u ((h1 u).2 rfl)⟩
  by_cases hd:d < t.length
  ·have hlt:Nat.blt d t.length=true:=by rw [Nat.blt_eq];exact hd
   cases u with
   | st e cs=>cases hs e cs rfl
   | new cs=>
    refine same (fun u'=>by simp only [BF,hlt]) ?_
    have e1:slot ((aV d t).set d (.ow cs)) d= .ow cs:=GK (by simpa [aV] using hd)
    simp only [gD,rf.app,e1]
   | val v=>
    have e1:slot (t.set d v) d=v:=GK hd
    have e2:∀w:TV,(t.set d v).set d w=t.set d w:=fun w=>by rw [List.set_set]
    have opened:(∀u',BF G t.length (some d) (.val v) u'↔∃w,Wp v w/\u'= .val w)->(gD S G (some d) (t.set d v) K↔lL S d (Dj v fun w=>fU w fun w=>dK w (t.set d v) d K))->(gD S G (some d) (t.set d v) K↔∀u',BF G t.length (some d) (.val v) u'->K (u'.app t (some d))):=fun h1 h2=>by
     rw [h2,bV,vL.iff]
     simp only [gK,bH,e2]
     exact⟨fun h u' hu=>by obtain⟨w,hw,rfl⟩:=(h1 u').1 hu;exact h.2 w hw,fun h=>⟨hb,fun w hw=>h (.val w) ((h1 _).2 ⟨w,hw,rfl⟩)⟩⟩
    cases v with
    | b x=>
     cases x with
     | none=>
      cases hG:bK G d with
      | false=>exact same (fun u'=>by simp only [BF,hlt,hG]) (by simp only [gD,rf.app,eG,e1,hG])
      | true=>
       simp only [gD,rf.app,eG,e1,bH,e2,BF,hlt,hG,bV]
       exact⟨fun h u' hu=>by rcases hu with rfl | rfl;exact h.2.1;exact h.2.2,fun h=>⟨hb,h _ (.inl rfl),h _ (.inr rfl)⟩⟩
     | some x=>exact same (fun u'=>by simp only [BF,hlt]) (by simp only [gD,rf.app,eG,e1])
    | bp p=>
     cases hG:bK G d with
     | false=>exact same (fun u'=>by simp only [BF,hlt,hG]) (by simp only [gD,rf.app,eG,e1,hG])
     | true=>
      simp only [gD,rf.app,eG,e1,bH,e2,BF,hlt,hG,bV]
      exact⟨fun h u' hu=>by rcases hu with⟨q,rfl⟩ | ⟨q,rfl⟩;exact h.2.1 q;exact h.2.2 q,fun h=>⟨hb,fun q=>h _ (.inl ⟨q,rfl⟩),fun q=>h _ (.inr ⟨q,rfl⟩)⟩⟩
    | i k x=>cases x with
     | none=>exact opened (fun u'=>by simp only [BF,hlt]) (by simp only [gD,e1])
     | some x=>exact same (fun u'=>by simp only [BF,hlt]) (by simp only [gD,rf.app,eG,e1])
    | s T x=>cases x with
     | none=>exact opened (fun u'=>by simp only [BF,hlt]) (by simp only [gD,e1])
     | some x=>exact same (fun u'=>by simp only [BF,hlt]) (by simp only [gD,rf.app,eG,e1])
    | agg cs=>exact opened (fun u'=>by simp only [BF,hlt]) (by simp only [gD,e1])
    | rg q m=>exact opened (fun u'=>by simp only [BF,hlt]) (by simp only [gD,e1])
    | aF cs=>exact opened (fun u'=>by simp only [BF,hlt]) (by simp only [gD,e1])
    | _=>exact same (fun u'=>by simp only [BF,hlt]) (by simp only [gD,rf.app,eG,e1])
  ·have hlt:Nat.blt d t.length=false:=by
    cases q:Nat.blt d t.length with
    | false=>rfl
    | true=>rw [Nat.blt_eq] at q;exact absurd q hd
   refine same (fun u'=>by simp only [BF,hlt]) ?_
   have hl:slot (u.app t (some d)) d= .bg:=by
    cases u with
    | st e cs=>cases hs e cs rfl
    | new cs=>exact GL (by simpa [rf.app,aV] using hd)
    | val v=>exact GL (by simpa [rf.app,eG] using hd)
   simp only [gD,hl]
theorem BF.ne (G:List Nat) (n:Nat) (d:Option Nat) (u:rf):∃u',BF G n d u u':=by
 cases d with
 | none=>exact⟨u,rfl⟩
 | some d=>
  simp only [BF]
  cases Nat.blt d n with
  | false=>exact⟨u,rfl⟩
  | true=>
   cases u with
   | val v=>
    have opened:∀v:TV,∃u':rf,∃w,Wp v w/\u'= .val w:=fun v=>by
     obtain⟨w,hw⟩:=vL.ne v
     exact⟨_,w,hw,rfl⟩
    cases v with
    | b x=>cases x with
     | none=>
      cases hG:bK G d with
      | false=>exact⟨_,rfl⟩
      | true=>exact⟨_, .inl rfl⟩
     | some x=>exact⟨_,rfl⟩
    | bp p=>
     cases hG:bK G d with
     | false=>exact⟨_,rfl⟩
     | true=>
      by_cases h:p
      ·exact⟨_, .inl ⟨h,rfl⟩⟩
      ·exact⟨_, .inr ⟨h,rfl⟩⟩
    | i k x=>cases x with
     | none=>exact opened _
     | some x=>exact⟨_,rfl⟩
    | s T x=>cases x with
     | none=>exact opened _
     | some x=>exact⟨_,rfl⟩
    | agg cs=>exact opened _
    | rg q m=>exact opened _
    | aF cs=>exact opened _
    | _=>exact⟨_,rfl⟩
   | _=>exact⟨_,rfl⟩
theorem BF.ok {ops:List Oper} {R:List (Nat×Nat)} {o:Oper} {G:List Nat} {n:Nat} {d:Option Nat} {u u':rf} (h:BF G n d u u') (hu:Pn ops R o u):Pn ops R o u':=by
 have hb:∀x:Bool,Pn ops R o (.val (.b (some x))):=fun x e k d h=>by cases h
 have ho:∀v w:TV,Wp v w->((∃k,v= .i k none)\/(∃T,v= .s T none)\/(∃cs,v= .agg cs)\/(∃cs,v= .aF cs)\/∃k m,v= .rg k m)->Pn ops R o (.val w):=fun v w hw hv e k d h=>absurd h ((Kl hw hv).2 e k)
 unfold BF at h
 split at h
 ·subst h;exact hu
 ·split at h
  ·subst h;exact hu
  ·split at h
   ·split at h
    ·rcases h with rfl | rfl<;>exact hb _
    ·subst h;exact hu
   ·split at h
    ·rcases h with⟨_,rfl⟩ | ⟨_,rfl⟩<;>exact hb _
    ·subst h;exact hu
   ·obtain⟨w,hw,rfl⟩:=h;exact ho _ w hw (.inl ⟨_,rfl⟩)
   ·obtain⟨w,hw,rfl⟩:=h;exact ho _ w hw (.inr (.inl ⟨_,rfl⟩))
   ·obtain⟨w,hw,rfl⟩:=h;exact ho _ w hw (.inr (.inr (.inr (.inr ⟨_,_,rfl⟩))))
   ·obtain⟨w,hw,rfl⟩:=h;exact ho _ w hw (.inr (.inr (.inl ⟨_,rfl⟩)))
   ·obtain⟨w,hw,rfl⟩:=h;exact ho _ w hw (.inr (.inr (.inr (.inl ⟨_,rfl⟩))))
   ·subst h;exact hu
theorem GM (hS:mo SP) {S:Nat} {ops:List Oper} {G:List Nat} {R:List (Nat×Nat)} {o:Oper} {t:List TV} (hR:vV R t) (hro:∀p∈jG R o,p∈R):∃(pre:Prop) (U:rf->Prop),(∀t',zg ops o t t'->∀K,o6 X Y SP an S ops G o t' K↔pre/\∀u,U u->K (u.app t' o.dst))/\(pre->∃u,U u)/\∀u,U u->Pn ops R o u:=by
 have bad:∀{f:List TV->(List TV->Prop)->Prop},(∀t',zg ops o t t'->∀K,f t' K↔False)->∃(pre:Prop) (U:rf->Prop),(∀t',zg ops o t t'->∀K,f t' K↔pre/\∀u,U u->K (u.app t' o.dst))/\(pre->∃u,U u)/\∀u,U u->Pn ops R o u:=fun h=>⟨False,fun _=>False,fun t' ha K=>by rw [h t' ha];exact⟨fun h=>h.elim,fun h=>h.1⟩,fun h=>h.elim,fun u hu=>hu.elim⟩
 unfold o6
 cases hw:dG ops t o with
 | yes=>
  obtain⟨pre,U,h1,h2,h3,h4⟩:=Z7 (X:=X) (Y:=Y) (an:=an) hS (S:=S) hR hro
  refine⟨pre,fun u=>∃v,U v/\BF G t.length o.dst v u,fun t' ha K=>?_,fun h=>?_,fun u ⟨v,hv,hf⟩=>hf.ok (h3 v hv)⟩
  ·rw [ha.wanted,hw]
   simp only
   rw [h1 t' ha]
   have hst:∀v,U v->∀e cs,v= .st e cs->o.dst=none:=fun v hv e cs q=>by subst q;exact(h3 _ hv).1
   constructor
   ·rintro⟨p,h⟩
    exact⟨p,fun u ⟨v,hv,hf⟩=>(OD (h4 p) (hst v hv)).1 (h v hv) u (by rw [ha.len];exact hf)⟩
   ·rintro⟨p,h⟩
    exact⟨p,fun v hv=>(OD (h4 p) (hst v hv)).2 fun u hf=>h u ⟨v,hv,by rw [ha.len] at hf;exact hf⟩⟩
  ·obtain⟨v,hv⟩:=h2 h
   obtain⟨u,hu⟩:=BF.ne G t.length o.dst v
   exact⟨u,v,hv,hu⟩
 | no=>
  refine⟨GJ S o.dst,(·= .val .un),fun t' ha K=>?_,fun _=>⟨_,rfl⟩,fun u hu=>by subst hu;intro e k d he;cases he⟩
  rw [ha.wanted,hw]
  simp only
  rw [jU]
  exact⟨fun h=>⟨h.1,fun u hu=>by subst hu;exact h.2⟩,fun h=>⟨h.1,h.2 _ rfl⟩⟩
 | may d want=>exact bad fun t' ha K=>by rw [ha.wanted,hw]
 | bad=>exact bad fun t' ha K=>by rw [ha.wanted,hw]
end
end Go.TM
namespace Go.TM
open Go Go.RowKit Go.AM
theorem Qu {ops:List Oper} {R:List (Nat×Nat)} {a b:Oper}:yw ops R a b=true↔(∀x∈turns R a,x∉looks ops R b)/\(∀x∈turns R a,x∉turns R b)/\∀x∈turns R b,x∉looks ops R a:=by
 unfold yw
 simp only [Bool.and_eq_true,Tg,and_assoc]
theorem dX {R:List (Nat×Nat)} {o:Oper} {d:Nat} (h:o.dst=some d):d∈turns R o:=by
 unfold turns;rw [h];simp
theorem slot_ne {t:List TV} {d x:Nat} {v:TV} (h:d≠x):slot (t.set d v) x=slot t x:=by
 rw [dR,dR,List.getD_eq_getElem?_getD,List.getD_eq_getElem?_getD,List.getElem?_set_ne h]
def drop1 (d:Nat) (v:TV):TV:=match v with
 | .aac e o=>if Nat.beq e d then .bg else .aac e o
 | v=>v
theorem vQ (d:Nat) (t:List TV):aV d t=t.map (drop1 d):=rfl
theorem Cq (d:Nat) (t:List TV) (x:Nat):slot (aV d t) x=drop1 d (slot t x):=by
 rw [dR,dR,List.getD_eq_getElem?_getD,List.getD_eq_getElem?_getD,vQ,List.getElem?_map]
 cases t[x]?<;>rfl
theorem Vw {d e k:Nat} {v:TV} (h:drop1 d v= .aac e k):v= .aac e k:=by
 cases v<;>first | exact h | skip
 simp only [drop1] at h
 split at h
 ·cases h
 ·exact h
theorem GN {d:Nat} {v:TV} (h:∀k,v≠ .aac d k):drop1 d v=v:=by
 cases v<;>first | rfl | skip
 rename_i e k
 simp only [drop1]
 split
 ·rename_i q;exact absurd (by rw [Nat.eq_of_beq_eq_true q]) (h k)
 ·rfl
theorem Vx {d:Nat} {v:TV} {cs:List TV}:drop1 d v= .ow cs↔v= .ow cs:=by
 cases v<;>first | exact Iff.rfl | skip
 simp only [drop1]
 split<;>exact⟨fun h=>(by cases h),fun h=>(by cases h)⟩
theorem Qv (d e:Nat) (v:TV):drop1 d (drop1 e v)=drop1 e (drop1 d v):=by
 cases v<;>first | rfl | skip
 rename_i f k
 simp only [drop1]
 cases h1:Nat.beq f e<;>cases h2:Nat.beq f d<;>simp [h1,h2]
theorem jV (d e:Nat) (t:List TV) (v:TV):aV d (t.set e v)=(aV d t).set e (drop1 d v):=by
 rw [vQ,vQ,List.map_set]
theorem OE (d e:Nat) (t:List TV):aV d (aV e t)=aV e (aV d t):=by
 simp only [vQ,List.map_map]
 exact List.map_congr_left fun v _=>Qv d e v
section
variable {ops:List Oper} {R:List (Nat×Nat)} {a b o:Oper} {t:List TV} {u v:rf}
theorem Xt:(u.app t o.dst).length=t.length:=by
 cases u with
 | val v=>cases o.dst<;>simp [rf.app,eG]
 | new cs=>cases o.dst<;>simp [rf.app,aV]
 | st e cs=>simp [rf.app]
theorem Vy (hu:Pn ops R o u) {x:Nat} (hx:x∉turns R o) (hd:∀d k,o.dst=some d->slot t x≠ .aac d k):slot (u.app t o.dst) x=slot t x:=by
 cases u with
 | val v=>
  cases h:o.dst with
  | none=>rfl
  | some d=>exact slot_ne (show d≠x from fun q=>hx (q▸dX h))
 | new cs=>
  cases h:o.dst with
  | none=>rfl
  | some d=>
   show slot ((aV d t).set d (.ow cs)) x=_
   rw [slot_ne (show d≠x from fun q=>hx (q▸dX h)),Cq,GN fun k=>hd d k h]
 | st e cs=>exact slot_ne (show e≠x from fun q=>hx (q▸hu.2))
theorem Z8 (hu:Pn ops R o u) {x:Nat} (hx:x∉turns R o) (cs:List TV):slot (u.app t o.dst) x= .ow cs↔slot t x= .ow cs:=by
 cases u with
 | val v=>
  cases h:o.dst with
  | none=>exact Iff.rfl
  | some d=>
   show slot (t.set d v) x=_↔_
   rw [slot_ne (show d≠x from fun q=>hx (q▸dX h))]
 | new cs=>
  cases h:o.dst with
  | none=>exact Iff.rfl
  | some d=>
   show slot ((aV d t).set d (.ow cs)) x=_↔_
   rw [slot_ne (show d≠x from fun q=>hx (q▸dX h)),Cq,Vx]
 | st e cs=>
  show slot (t.set e (.ow cs)) x=_↔_
  rw [slot_ne (show e≠x from fun q=>hx (q▸hu.2))]
theorem zg.after (hR:vV R t) (hu:Pn ops R a u) (h:∀x∈turns R a,x∉looks ops R b):zg ops b t (u.app t a.dst):=by
 refine⟨Xt,fun x hx=>Vy hu (fun q=>h x q ?_) fun d k hd hs=>?_,fun x hx e k hs cs=>Z8 hu (fun q=>h e q ?_) cs⟩
 ·unfold looks;exact List.mem_append_left _ hx
 ·refine h d (dX hd) ?_
  unfold looks;exact List.mem_append_right _ (jq.2 ⟨x,hx,hR _ _ _ hs⟩)
 ·unfold looks;exact List.mem_append_right _ (jq.2 ⟨x,List.mem_append_right _ hx,hR _ _ _ hs⟩)
theorem vV.app (hR:vV R t) (hu:Pn ops R o u):vV R (u.app t o.dst):=by
 intro x e k hs
 have at_set:∀{s:List TV} {d:Nat} {v:TV},slot (s.set d v) x= .aac e k->(x=d/\v= .aac e k)\/slot s x= .aac e k:=fun {s d v} h=>by
  by_cases q:d=x
  ·subst q
   by_cases hl:d < s.length
   ·rw [GK hl] at h;exact .inl ⟨rfl,h⟩
   ·rw [GL (by simpa using hl)] at h;cases h
  ·rw [slot_ne q] at h;exact .inr h
 cases u with
 | val v=>
  cases hd:o.dst with
  | none=>rw [hd] at hs;exact hR _ _ _ hs
  | some d=>
   rw [hd] at hs
   rcases at_set hs with⟨rfl,h⟩ | h
   ·exact(hu e k _ h hd).1
   ·exact hR _ _ _ h
 | new cs=>
  cases hd:o.dst with
  | none=>rw [hd] at hs;exact hR _ _ _ hs
  | some d=>
   rw [hd] at hs
   rcases at_set hs with⟨_,h⟩ | h
   ·cases h
   ·rw [Cq] at h;exact hR _ _ _ (Vw h)
 | st f cs=>
  rcases at_set hs with⟨_,h⟩ | h
  ·cases h
  ·exact hR _ _ _ h
theorem Vz (ha:Pn ops R a u) (hb:Pn ops R b v) (h1:∀x∈turns R a,x∉looks ops R b) (h2:∀x∈turns R a,x∉turns R b) (h3:∀x∈turns R b,x∉looks ops R a):v.app (u.app t a.dst) b.dst=u.app (v.app t b.dst) a.dst:=by
 have ne:∀{d e},d∈turns R a->e∈turns R b->d≠e:=fun p q r=>h2 _ p (r▸q)
 have ia:∀{d e x},a.dst=some d->u= .val x->e∈turns R b->drop1 e x=x:=fun {d e x} hd hu he=>GN fun k q=>by
  subst hu
  exact h3 e he (ha e k d q hd).2
 have ib:∀{d e x},b.dst=some d->v= .val x->e∈turns R a->drop1 e x=x:=fun {d e x} hd hu he=>GN fun k q=>by
  subst hu
  exact h1 e he (hb e k d q hd).2
 cases hda:a.dst with
 | none=>
  cases Zd:b.dst with
  | none=>
   cases u with
   | st e cs=>
    cases v with
    | st f ds=>exact List.set_comm _ _ (ne ha.2 hb.2)
    | _=>rfl
   | _=>cases v<;>rfl
  | some d'=>
   cases u with
   | st e cs=>
    cases v with
    | st f ds=>exact List.set_comm _ _ (ne ha.2 hb.2)
    | val x=>exact List.set_comm _ _ (ne ha.2 (dX Zd))
    | new ds=>
     show(aV d' (t.set e (.ow cs))).set d' (.ow ds)=((aV d' t).set d' (.ow ds)).set e (.ow cs)
     rw [jV,List.set_comm _ _ (ne ha.2 (dX Zd))];rfl
   | _=>cases v<;>rfl
 | some d=>
  cases Zd:b.dst with
  | none=>
   cases v with
   | st f ds=>
    cases u with
    | st e cs=>exact List.set_comm _ _ (ne ha.2 hb.2)
    | val x=>exact List.set_comm _ _ (ne (dX hda) hb.2)
    | new cs=>
     show((aV d t).set d (.ow cs)).set f (.ow ds)=(aV d (t.set f (.ow ds))).set d (.ow cs)
     rw [jV,List.set_comm _ _ (ne (dX hda) hb.2)];rfl
   | _=>cases u<;>rfl
  | some d'=>
   have hn:d≠d':=ne (dX hda) (dX Zd)
   cases u with
   | st e cs=>have:=ha.1;rw [hda] at this;cases this
   | val x=>
    cases v with
    | st e cs=>have:=hb.1;rw [Zd] at this;cases this
    | val y=>exact List.set_comm _ _ hn
    | new ds=>
     show(aV d' (t.set d x)).set d' (.ow ds)=((aV d' t).set d' (.ow ds)).set d x
     rw [jV,ia hda rfl (dX Zd),List.set_comm _ _ hn]
   | new cs=>
    cases v with
    | st e cs=>have:=hb.1;rw [Zd] at this;cases this
    | val y=>
     show((aV d t).set d (.ow cs)).set d' y=(aV d (t.set d' y)).set d (.ow cs)
     rw [jV,ib Zd rfl (dX hda),List.set_comm _ _ hn]
    | new ds=>
     show(aV d' ((aV d t).set d (.ow cs))).set d' (.ow ds)=(aV d ((aV d' t).set d' (.ow ds))).set d (.ow cs)
     rw [jV,jV,OE,List.set_comm _ _ hn];rfl
end
section
variable {X:Nat->Option XK} {Y:iM} {SP:Spec} {an:Nat->Option (List TV)} {S:Nat} {ops:List Oper} {G:List Nat} {R:List (Nat×Nat)}
theorem GQ (hS:mo SP) {o:Oper} {t:List TV} (hR:vV R t) (hro:∀p∈jG R o,p∈R) {K K':List TV->Prop} (hk:∀t1,vV R t1->K t1->K' t1) (h:o6 X Y SP an S ops G o t K):o6 X Y SP an S ops G o t K':=by
 obtain⟨pre,U,h1,_,h3⟩:=GM (X:=X) (Y:=Y) (an:=an) (S:=S) (ops:=ops) (G:=G) hS hR hro
 rw [h1 t (zg.refl _ _ _)] at h ⊢
 exact⟨h.1,fun u hu=>hk _ (hR.app (h3 u hu)) (h.2 u hu)⟩
theorem Qw (hS:mo SP) {a b:Oper} {t:List TV} (hR:vV R t) (ha:∀p∈jG R a,p∈R) (hb:∀p∈jG R b,p∈R) (hs:yw ops R a b=true) {K:List TV->Prop} (h:o6 X Y SP an S ops G a t fun t=>o6 X Y SP an S ops G b t K):o6 X Y SP an S ops G b t fun t=>o6 X Y SP an S ops G a t K:=by
 obtain⟨s1,s2,s3⟩:=Qu.1 hs
 obtain⟨pa,Ua,a1,a2,a3⟩:=GM (X:=X) (Y:=Y) (an:=an) (S:=S) (ops:=ops) (G:=G) hS hR ha
 obtain⟨pb,Ub,b1,b2,b3⟩:=GM (X:=X) (Y:=Y) (an:=an) (S:=S) (ops:=ops) (G:=G) hS hR hb
 rw [a1 t (zg.refl _ _ _)] at h
 rw [b1 t (zg.refl _ _ _)]
 obtain⟨hp,h⟩:=h
 have hb':∀u,Ua u->pb/\∀v,Ub v->K (v.app (u.app t a.dst) b.dst):=fun u hu=>(b1 _ (zg.after hR (a3 u hu) s1) K).1 (h u hu)
 obtain⟨u0,hu0⟩:=a2 hp
 refine⟨(hb' u0 hu0).1,fun v hv=>(a1 _ (zg.after hR (b3 v hv) s3) K).2 ⟨hp,fun u hu=>?_⟩⟩
 rw [<- Vz (a3 u hu) (b3 v hv) s1 s2 s3]
 exact(hb' u hu).2 v hv
theorem GR (hS:mo SP) {Q:List TV->Prop} {o:Oper} {l2:List Oper} (ho:∀p∈jG R o,p∈R):∀(l1:List Oper) (t:List TV),vV R t->(∀a∈l1,(∀p∈jG R a,p∈R)/\yw ops R a o=true)->zT X Y SP an S ops G Q (l1++o::l2) t->zT X Y SP an S ops G Q (o::(l1++l2)) t
 | [],t,_,_,h=>h
 | a::l1,t,hR,hl,h=>by
  obtain⟨ha,hs⟩:=hl a (by simp)
  have h':o6 X Y SP an S ops G a t fun t=>o6 X Y SP an S ops G o t fun t=>zT X Y SP an S ops G Q (l1++l2) t:=
   GQ hS hR ha (fun t1 hR1 hk=>GR hS ho l1 t1 hR1 (fun b hb=>hl b (by simp [hb])) hk) h
  exact Qw hS hR ha ho hs h'
end
end Go.TM
namespace Go.TM
open Go Go.RowKit Go.AM
def Ze (ops:List Oper) (R:List (Nat×Nat)) (m:Nat->Nat) (i:Nat) (o:Oper):Prop:=
 (∀e∈o.after,Region.binds .any e=true->e.on < i)/\
 (∀j,Nat.testBit (m i) j=true->∃e∈o.after,Region.binds .any e=true/\(j=e.on\/Nat.testBit (m e.on) j=true))/\
 ∀j b,j < i->ops[j]?=some b->Nat.testBit (m i) j=false->yw ops R b o=true
theorem qP {ae:List Nat} {j:Nat}:∀{l:List Edge},Nat.testBit (waitsFor ae l) j=true->∃e∈l,Region.binds .any e=true/\(j=e.on\/Nat.testBit (ae.getD e.on 0) j=true)
 | [],h=>by simp [waitsFor] at h
 | e::l,h=>by
  unfold waitsFor at h
  cases q:Region.binds .any e with
  | false=>
   rw [q] at h
   obtain⟨f,h1,h2⟩:=qP (l:=l) h
   exact⟨f,by simp [h1],h2⟩
  | true=>
   rw [q] at h
   simp only [cond_true] at h
   rw [show Nat.lor (Nat.lor (Nat.shiftLeft 1 e.on) (ae.getD e.on 0)) (waitsFor ae l)=((1 <<< e.on)||| (ae.getD e.on 0))||| waitsFor ae l from rfl,Nat.testBit_or,Nat.testBit_or] at h
   simp only [Bool.or_eq_true] at h
   rcases h with(h | h) | h
   ·rw [Nat.one_shiftLeft,Nat.testBit_two_pow] at h
    exact⟨e,by simp,q, .inl (by simpa using h:e.on=j).symm⟩
   ·exact⟨e,by simp,q, .inr h⟩
   ·obtain⟨f,h1,h2⟩:=qP (l:=l) h
    exact⟨f,by simp [h1],h2⟩
theorem GU {ops:List Oper} {R:List (Nat×Nat)} {m:Nat} {o:Oper}:∀{l:List Oper} {i:Nat},zR ops R m o i l=true->∀j b,l[j]?=some b->Nat.testBit m (i+j)=false->yw ops R b o=true
 | [],i,_,j,b,hb,_=>by simp at hb
 | a::l,i,h,0,b,hb,hm=>by
  simp only [zR,Bool.and_eq_true] at h
  simp at hb;subst hb
  have h1:=h.1
  rw [Nat.add_zero] at hm
  rw [hm] at h1;exact h1
 | a::l,i,h,j+1,b,hb,hm=>by
  simp only [zR,Bool.and_eq_true] at h
  exact GU h.2 j b (by simpa using hb) (by rw [<- hm];congr 1;omega)
def masks (ae:List Nat):List Oper->List Nat
 | []=>ae
 | o::l=>masks (ae++[waitsFor ae o.after.toList]) l
theorem Cr:∀{l:List Oper} {ae:List Nat} {i:Nat},i < ae.length->(masks ae l).getD i 0=ae.getD i 0
 | [],ae,i,_=>rfl
 | o::l,ae,i,h=>by
  show(masks (ae++[_]) l).getD i 0=_
  rw [Cr (by simp;omega),List.getD_eq_getElem?_getD,List.getD_eq_getElem?_getD,List.getElem?_append_left h]
theorem tQ {ops:List Oper} {R:List (Nat×Nat)} {m:Nat->Nat}:∀{l done:List Oper} {ae:List Nat},ops=done++l->ae.length=done.length->(∀i,m i=(masks ae l).getD i 0)->zS ops R done ae l=true->∀i o,done.length<=i->ops[i]?=some o->Ze ops R m i o
 | [],done,ae,he,_,_,_,i,o,hi,ho=>by
  subst he
  simp at ho
  have:=(List.getElem?_eq_some_iff.1 ho).1;omega
 | a::l,done,ae,he,hl,hm,h,i,o,hi,ho=>by
  simp only [zS,Bool.and_eq_true] at h
  obtain⟨⟨h1,h2⟩,h3⟩:=h
  by_cases q:i=done.length
  ·subst q
   have hoa:o=a:=by rw [he] at ho;simpa using ho.symm
   subst hoa
   have hmi:m done.length=waitsFor ae o.after.toList:=by
    rw [hm,show masks ae (o::l)=masks (ae++[waitsFor ae o.after.toList]) l from rfl,Cr (by simp;omega),List.getD_eq_getElem?_getD,List.getElem?_append_right (by omega)]
    simp [hl]
   have hlt:∀e∈o.after,Region.binds .any e=true->e.on < done.length:=fun e hem hb=>by
    have:=List.all_eq_true.1 h2 e (Array.mem_toList_iff.2 hem)
    rw [hb] at this
    simpa [Nat.blt_eq] using this
   refine⟨hlt,fun j hj=>?_,fun j b hj hb hm'=>?_⟩
   ·rw [hmi] at hj
    obtain⟨e,e1,e2,e3⟩:=qP hj
    have e1':=Array.mem_toList_iff.1 e1
    refine⟨e,e1',e2,e3.imp_right fun e3=>?_⟩
    rw [hm,show masks ae (o::l)=masks (ae++[waitsFor ae o.after.toList]) l from rfl,Cr (by simp;have:=hlt e e1' e2;omega),List.getD_eq_getElem?_getD,List.getElem?_append_left (by have:=hlt e e1' e2;omega), <- List.getD_eq_getElem?_getD]
    exact e3
   ·rw [hmi] at hm'
    refine GU h1 j b ?_ (by rw [Nat.zero_add];exact hm')
    rw [he,List.getElem?_append_left hj] at hb;exact hb
  ·exact tQ (l:=l) (done:=done++[a]) (ae:=ae++[waitsFor ae a.after.toList]) (by rw [he];simp) (by simp [hl]) (fun i=>hm i) h3 i o (by simp;omega) ho
theorem Dz {R:List (Nat×Nat)}:∀{l:List Oper},Fh R l=true->∀o∈l,∀p∈jG R o,p∈R
 | [],_,o,ho=>by cases ho
 | a::l,h,o,ho=>by
  simp only [Fh,Bool.and_eq_true] at h
  rcases List.mem_cons.1 ho with rfl | ho
  ·exact fun p hp=>Vs (List.all_eq_true.1 h.1 p hp)
  ·exact Dz h.2 o ho
section
variable {P:Program} {w0:World} {ro:Option Nat} {X:Nat->Option XK} {Y:iM} {SP:Spec} {an:Nat->Option (List TV)}
def nH (ops:List Oper) (l:List Nat):List Oper:=l.filterMap (ops[·]?)
theorem qQ (ops:List Oper) (a b:List Nat):nH ops (a++b)=nH ops a++nH ops b:=List.filterMap_append
theorem Qx {ops:List Oper} {i:Nat} {o:Oper} (h:ops[i]?=some o) (l:List Nat):nH ops (i::l)=o::nH ops l:=by
 unfold nH;rw [List.filterMap_cons,h]
theorem GV (ops:List Oper):∀n:Nat,nH ops (List.range n)=ops.take n
 | 0=>by simp [nH]
 | n+1=>by
  rw [List.range_succ,qQ,GV ops n,List.take_add_one]
  congr 1
theorem Ti (ops:List Oper):nH ops (List.range ops.length)=ops:=by rw [GV,List.take_length]
theorem tT {listed:Array Bool} {i:Nat} (h:i < listed.size):listed.getD i true=listed.getD i false:=by
 rw [Array.getD_eq_getD_getElem?,Array.getD_eq_getD_getElem?,Array.getElem?_eq_getElem h];rfl
theorem FY {ops:Array Oper} {S:Nat} {R:List (Nat×Nat)} {Gs:List Nat} {m:Nat->Nat} {Q:List TV->Prop} {s:St} {σ:TE} {a:Act} {w:World} {RR:Exit->Act->World->Prop} (hX:∀f x,X f=some x->C8 P f x) (hY:ky P w0 Y) (hSP:r9 P w0 SP) (hS:mo SP)
  (hro:∀o∈ops.toList,∀p∈jG R o,p∈R) (hm:∀i o,ops.toList[i]?=some o->Ze ops.toList R m i o) (hR:∀t σ' a' w',Q t->o9 S s.t t->Came P w0 σ s a w σ' ⟨t,s.d,s.g⟩ a' w'->RR .normal a' w'):
  ∀(fuel:Nat) (listed:Array Bool) (rem:List Nat) (t:List TV) (σ1:TE) (a1:Act) (w1:World),listed.size=ops.size->rem.length=fuel->rem.Pairwise (·< ·)->(∀i,i∈rem↔i < ops.size/\listed.getD i false=false)->
   (∀i,listed.getD i false=true->∀j,Nat.testBit (m i) j=true->listed.getD j false=true)->vV R t->o9 S s.t t->zT X Y SP an S ops.toList Gs Q (nH ops.toList rem) t->Came P w0 σ s a w σ1 ⟨t,s.d,s.g⟩ a1 w1->wpAnyIn (qX ro) 0 P .any ops RR fuel listed a1 w1:=by
 have Qy:∀(listed:Array Bool) (rem:List Nat),listed.size=ops.size->rem.Pairwise (·< ·)->(∀i,i∈rem↔i < ops.size/\listed.getD i false=false)->Region.ready .any ops listed=[]->rem=[]:=by
  intro listed rem hsz hpw hmem hrd
  cases rem with
  | nil=>rfl
  | cons i r=>
   exfalso
   obtain⟨hi,hf⟩:=(hmem i).1 (by simp)
   have ho:ops[i]?=some ops[i]:=Array.getElem?_eq_getElem hi
   have hw:=hm i ops[i] (by simp)
   have:i∈Region.ready .any ops listed:=mem_ready.2 ⟨by rw [tT (by omega)];exact hf,ops[i],ho,fun e he hb=>by
    have hlt:=hw.1 e he hb
    cases q:listed.getD e.on false with
    | true=>rfl
    | false=>
     have hmm:=(hmem e.on).2 ⟨by omega,q⟩
     rcases List.mem_cons.1 hmm with h | h
     ·omega
     ·have:=(List.pairwise_cons.1 hpw).1 _ h;omega⟩
   rw [hrd] at this
   cases this
 intro fuel
 induction fuel with
 | zero=>
  intro listed rem t σ1 a1 w1 hsz hl hpw hmem hcl hIn hag h c
  have hnil:=List.length_eq_zero_iff.1 hl
  subst hnil
  refine⟨List.eq_nil_iff_forall_not_mem.2 fun j hj=>?_,hR t σ1 a1 w1 h hag c⟩
  obtain⟨h1,o,ho,_⟩:=mem_ready.1 hj
  have hjl:=(Array.getElem?_eq_some_iff.1 ho).1
  have:=(hmem j).2 ⟨hjl,by rw [<- tT (by omega)];exact h1⟩
  cases this
 | succ fuel ih=>
  intro listed rem t σ1 a1 w1 hsz hl hpw hmem hcl hIn hag h c
  refine⟨fun hrd=>?_,fun i hi=>?_⟩
  ·have:=Qy listed rem hsz hpw hmem hrd
   subst this;cases hl
  obtain⟨h1,o,ho,hbind⟩:=mem_ready.1 hi
  have hin:i < ops.size:=(Array.getElem?_eq_some_iff.1 ho).1
  have hol:ops.toList[i]?=some o:=by simpa using ho
  have hlf:listed.getD i false=false:=by rw [<- tT (by omega)];exact h1
  obtain⟨r1,r2,hr⟩:=List.append_of_mem ((hmem i).2 ⟨hin,hlf⟩)
  subst hr
  have hw:=hm i o hol
  obtain⟨pw1,pw2,pw3⟩:=List.pairwise_append.1 hpw
  have VB:∀j,Nat.testBit (m i) j=true->listed.getD j false=true:=fun j hj=>by
   obtain⟨e,he,hb,h⟩:=hw.2.1 j hj
   rcases h with rfl | h
   ·exact hbind e he hb
   ·exact hcl e.on (hbind e he hb) j h
  have hmemO:∀{l:List Nat} {b:Oper},b∈nH ops.toList l->∃j∈l,ops.toList[j]?=some b:=fun {l b} hb=>by
   obtain⟨j,hj,h⟩:=List.mem_filterMap.1 hb
   exact⟨j,hj,h⟩
  rw [qQ,Qx hol] at h
  have h2:=GR hS (hro o (List.mem_of_getElem? hol)) (nH ops.toList r1) t hIn (fun b hb=>by
   obtain⟨j,hj,hb'⟩:=hmemO hb
   refine⟨hro b (List.mem_of_getElem? hb'),hw.2.2 j b (pw3 j hj i (by simp)) hb' ?_⟩
   cases q:Nat.testBit (m i) j with
   | false=>rfl
   | true=>
    have:=VB j q
    rw [((hmem j).1 (by simp [hj])).2] at this;cases this) h
  rw [<- qQ] at h2
  have h3:o6 X Y SP an S ops.toList Gs o t fun t1=>vV R t1/\zT X Y SP an S ops.toList Gs Q (nH ops.toList (r1++r2)) t1:=GQ hS hIn (hro o (List.mem_of_getElem? hol)) (fun t1 q1 q2=>⟨q1,q2⟩) h2
  have hnext:∀t2 σ2 a2 w2,vV R t2->o9 S s.t t2->zT X Y SP an S ops.toList Gs Q (nH ops.toList (r1++r2)) t2->Came P w0 σ s a w σ2 ⟨t2,s.d,s.g⟩ a2 w2->wpAnyIn (qX ro) 0 P .any ops RR fuel (listed.setIfInBounds i true) a2 w2:=by
   intro t2 σ2 a2 w2 q1 q2 q3 q4
   have hset:∀j,(listed.setIfInBounds i true).getD j false=if j=i then true else listed.getD j false:=fun j=>by
    by_cases hj:i=j
    ·subst hj
     simp [Array.getD_eq_getD_getElem?,hsz,hin]
    ·rw [if_neg (fun q=>hj q.symm),Array.getD_eq_getD_getElem?,Array.getElem?_setIfInBounds_ne hj, <- Array.getD_eq_getD_getElem?]
   have hni:i∉r1/\i∉r2:=⟨fun q=>Nat.lt_irrefl _ (pw3 i q i (by simp)),fun q=>Nat.lt_irrefl _ ((List.pairwise_cons.1 pw2).1 i q)⟩
   refine ih _ (r1++r2) t2 σ2 a2 w2 (by simp [hsz]) (by simp at hl ⊢;omega) (List.pairwise_append.2 ⟨pw1,(List.pairwise_cons.1 pw2).2,fun x hx y hy=>pw3 x hx y (by simp [hy])⟩) (fun j=>?_) (fun j hj k hk=>?_) q1 q2 q3 q4
   ·rw [hset]
    have:=hmem j
    by_cases hj:j=i
    ·subst hj
     simp [hni.1,hni.2]
    ·rw [if_neg hj, <- this]
     simp [hj]
   ·rw [hset] at hj ⊢
    by_cases hki:k=i
    ·rw [if_pos hki]
    ·rw [if_neg hki]
     by_cases hji:j=i
     ·subst hji;exact VB k hk
     ·rw [if_neg hji] at hj;exact hcl j hj k hk
  unfold wpOpIn
  simp only [ho]
  have hs:=dS (ops:=ops) c.step.rel.tl (o:=o)
  unfold o6 at h3
  cases hwt:dG ops.toList t o with
  | yes=>
   simp only [hwt] at h3 hs
   rw [if_pos hs]
   refine(Cg hX hY hSP h3 s.g).get σ1 a1 w1 c.step.rel _ _ fun t' g' σ' w' x ⟨k1,k2,k3⟩ hp=>?_
   subst k3
   obtain⟨t2,⟨j1,j2⟩,j3,j4⟩:=Ci k1 hp.rel
   exact hnext t2 σ' _ w' j1 ((hag.trans k2).trans j3.LD) j2 ⟨c.step.trans (hp.trans j4),by rw [put_defers];exact c.d⟩
  | no=>
   simp only [hwt] at h3 hs
   rw [if_neg (by rw [hs];simp)]
   obtain⟨b1,b2,b3⟩:=jU.1 h3
   refine⟨fun _ _=>trivial,hnext _ σ1 _ w1 b2 (hag.trans ?_) b3 ⟨c.step.trans (Step.post c.step.rel (aJ.refl c.step.rel.tw) rfl fI o.dst),by rw [put_defers];exact c.d⟩⟩
   cases hd:o.dst with
   | none=>exact o9.refl _ _
   | some d=>rw [hd] at b1;exact(Ag.set b1).LD
  | may d want=>simp only [hwt] at h3
  | bad=>simp only [hwt] at h3
theorem GX (hmx:P.follows .mixedOrders=true) (hX:∀f x,X f=some x->C8 P f x) (hY:ky P w0 Y) (hSP:r9 P w0 SP) (hS:mo SP):LK P w0 X Y SP an:=by
 intro ro S id ops Q t d g hok hno h
 unfold Qa at hok
 simp only [Bool.and_eq_true] at hok
 refine .of fun σ a w mm=>?_
 have hrep:∀i,(Array.replicate ops.size false).getD i false=false:=fun i=>by
  rw [Array.getD_eq_getD_getElem?]
  by_cases h:i < ops.size
  ·simp [h]
  ·simp [h]
 refine wpIn_region_any hmx ?_
 have hd:Came P w0 σ ⟨t,d,g⟩ a w σ ⟨t,d,g⟩ a {w with drawn:=w.drawn+1}:=⟨Step.keep mm.rel (aJ.drew mm.rel.tw),mm.d⟩
 refine FY (an:=an) (S:=S) (R:=Fg [] ops.toList) (Gs:=guards ops.toList ops.toList) (m:=fun i=>(masks [] ops.toList).getD i 0) (Q:=Q) (s:=⟨t,d,g⟩) (σ:=σ) (a:=a) (w:=w) hX hY hSP hS (fun o ho=>Dz hok.1 o ho)
  (fun i o ho=>tQ (done:=[]) (ae:=[]) rfl rfl (fun _=>rfl) hok.2 i o (Nat.zero_le _) ho) (fun t' σ' a' w' q1 q2 q3=>⟨_,σ',⟨rfl,q1,q2,rfl,rfl⟩,q3⟩) ops.size _ (List.range ops.size) t σ a _ (by simp) (by simp) List.pairwise_lt_range (fun i=>?_) (fun i hi=>?_) hno.invR (o9.refl _ _) ?_ hd
 ·rw [hrep];simp
 ·rw [hrep] at hi;cases hi
 ·rw [show ops.size=ops.toList.length by simp,Ti];exact h
end
end Go.TM
namespace Go.TM
open Go Go.RowKit Go.AM
theorem RX:∀{n:Nat} {K:List Int->Prop},(∀l:List Int,l.length=n->K l)->allI n K
 | 0,K,h=>h [] rfl
 | n+1,K,h=>fun x=>RX fun l hl=>h (x::l) (by simp [hl])
mutual
def codes:TV->List Nat
 | .fn g _ cs=>(g+10)::GY cs
 | .pn=>[1]
 | .p (.fn g _ cs::_)=>2::(g+10)::GY cs
 | .p _=>[2]
 | .pb (.i _ (some _)::_)=>[6]
 | .pb _=>[5]
 | .np _ _=>[4]
 | .oC _ m=>[3,m]
 | .agg cs=>GY cs
 | _=>[]
def GY:List TV->List Nat
 | []=>[]
 | a::l=>codes a++GY l
end
def eqN:List Nat->List Nat->Bool
 | [],[]=>true
 | a::l,b::r=>Nat.beq a b&&eqN l r
 | _,_=>false
def RY:List (List Nat×aab)->List Nat->Option aab
 | [],_=>none
 | (c,F)::l,k=>match eqN c k with
  | true=>some F
  | false=>RY l k
def RZ:List (Nat×List (List Nat×aab))->Nat->List Nat->Option aab
 | [],_,_=>none
 | (g,l)::r,f,k=>match Nat.beq g f with
  | true=>RY l k
  | false=>RZ r f k
theorem Ky:∀{l:List (List Nat×aab)} {k:List Nat} {F:aab},RY l k=some F->F∈l.map (·.2)
 | [],k,F,h=>by cases h
 | (c,G)::l,k,F,h=>by
  unfold RY at h
  split at h
  ·injection h with h;subst h;simp
  ·exact List.mem_cons_of_mem _ (Ky h)
theorem Kz:∀{l:List (Nat×List (List Nat×aab))} {f:Nat} {k:List Nat} {F:aab},RZ l f k=some F->∃p∈l,p.1=f/\F∈p.2.map (·.2)
 | [],f,k,F,h=>by cases h
 | (g,c)::l,f,k,F,h=>by
  unfold RZ at h
  split at h
  ·rename_i e;exact⟨(g,c),by simp,Nat.eq_of_beq_eq_true e,Ky h⟩
  ·obtain⟨p,hp,q⟩:=Kz h
   exact⟨p,List.mem_cons_of_mem _ hp,q⟩
section
variable {P:Program} {w0:World}
theorem av.args {f:FuncId} {l l':List TV} {g:G} {Q:TV->G->Prop} (h:av P w0 f l' g Q) (hl:∀σ vs,ai σ l vs->ai σ l' vs):av P w0 f l g Q:=
 .of fun σ w vs h1 h2=>h.get σ w vs (hl σ _ h1) h2
theorem av.Ch {f:FuncId} {l:List TV} {g:G} {Q Q':TV->G->Prop} (h:av P w0 f l g Q) (hq:∀v g',Q v g'->∃v',Q' v' g'/\∀σ x,af σ v x->af σ v' x):av P w0 f l g Q':=
 .of fun σ w vs h1 h2=>CallsIn.mono (R:=fun e w'=>∃v r g' σ',e= .returned v/\Q r g'/\aJ P w0 σ g w σ' g' w'/\af σ' r v) (h.get σ w vs h1 h2) fun e w' ⟨v,r,g',σ',h1,h2,h3,h4⟩=>by
  obtain⟨r',h5,h6⟩:=hq r g' h2
  exact⟨v,r',g',σ',h1,h5,h3,h6 _ _ h4⟩
def bJ (xs:List Int) (R:List Alt) (v:TV):Prop:=∃a∈R,∃ys:List Int,ys.length=TV.cnt a.R/\a.post xs ys/\v=(TV.fill a.R ys).1
theorem lV {xs:List Int} {K:TV->Prop}:∀{R:List Alt},N9 xs K R↔∀v,bJ xs R v->K v
 | []=>⟨fun _ v ⟨a,h,_⟩=>(by cases h),fun _=>trivial⟩
 | a::l=>by
  unfold N9
  rw [lV (R:=l)]
  constructor
  ·rintro⟨h1,h2⟩ v ⟨b,hb,ys,hl,hp,rfl⟩
   rcases List.mem_cons.1 hb with rfl | hb
   ·exact Gv h1 ys hl hp
   ·exact h2 _ ⟨b,hb,ys,hl,hp,rfl⟩
  ·exact fun h=>⟨RX fun ys hl hp=>h _ ⟨a,by simp,ys,hl,hp,rfl⟩,fun v ⟨b,hb,ys,hl,hp,e⟩=>h v ⟨b,by simp [hb],ys,hl,hp,e⟩⟩
structure aD (P:Program) (w0:World) (f:FuncId) (F:aab):Prop where
 goes:Goes P f
 live:∀xs:List Int,xs.length=TV.oD F.A->F.pre xs->∃v,bJ xs F.R v
 call:∀xs:List Int,xs.length=TV.oD F.A->F.pre xs->∀g,av P w0 f (TV.fills F.A xs).1 g fun v g'=>bJ xs F.R v/\g'=g
theorem OG {tab:FuncId->List TV->Option aab} {r:Nat} {f:FuncId} {l:List TV} {K:TV->Prop}:Qc tab r f l K↔∃F c xs,tab f l=some F/\F.rank < r/\TV.oW F.A l=some (c,xs)/\aS.ok c/\F.pre xs/\∀v,bJ xs F.R v->K v:=by
 unfold Qc
 constructor
 ·intro h
  split at h
  ·exact h.elim
  ·rename_i F hF
   split at h
   ·exact h.elim
   ·rename_i hr
    split at h
    ·exact h.elim
    ·rename_i c xs hc
     obtain⟨h1,h2,h3⟩:=fZ.1 h
     exact⟨F,c,xs,hF,by simpa [Nat.blt_eq] using hr,hc,h1,h2,lV.1 h3⟩
 ·rintro⟨F,c,xs,hF,hr,hc,h1,h2,h3⟩
  have hr':Nat.blt F.rank r=true:=by rw [Nat.blt_eq];exact hr
  simp only [hF,hr',hc]
  exact fZ.2 ⟨h1,h2,lV.2 h3⟩
theorem GZ {tab:FuncId->List TV->Option aab} {r:Nat} (h:∀f l F,tab f l=some F->F.rank < r->aD P w0 f F):mo (Qc tab r):=by
 intro f l
 refine⟨∃F c xs,tab f l=some F/\F.rank < r/\TV.oW F.A l=some (c,xs)/\aS.ok c/\F.pre xs,fun v=>∃F c xs,tab f l=some F/\TV.oW F.A l=some (c,xs)/\bJ xs F.R v,fun K=>?_,?_⟩
 ·rw [OG]
  constructor
  ·rintro⟨F,c,xs,hF,hr,hc,h1,h2,h3⟩
   refine⟨⟨F,c,xs,hF,hr,hc,h1,h2⟩,?_⟩
   rintro v ⟨F',c',xs',hF',hc',hv⟩
   rw [hF] at hF'
   injection hF' with hF';subst hF'
   rw [hc] at hc'
   injection hc' with hc';injection hc' with q1 q2;subst q2
   exact h3 v hv
  ·rintro⟨⟨F,c,xs,hF,hr,hc,h1,h2⟩,h3⟩
   exact⟨F,c,xs,hF,hr,hc,h1,h2,fun v hv=>h3 _ ⟨F,c,xs,hF,hc,hv⟩⟩
 ·rintro⟨F,c,xs,hF,hr,hc,h1,h2⟩
  obtain⟨v,hv⟩:=(h f l F hF hr).live xs (dH (σ:=fun _=>none) _ _ _ _ hc h1).1 h2
  exact⟨_,F,c,xs,hF,hc,hv⟩
theorem Fu {tab:FuncId->List TV->Option aab} {r:Nat} (h:∀f l F,tab f l=some F->F.rank < r->aD P w0 f F):r9 P w0 (Qc tab r):=by
 intro f l K hs
 obtain⟨F,c,xs,hF,hr,hc,h1,h2,h3⟩:=OG.1 hs
 have hcon:=h f l F hF hr
 have hl:=(dH (σ:=fun _=>none) _ _ _ _ hc h1).1
 refine⟨hcon.goes,fun g=>av.mono (av.args (hcon.call xs hl h2 g) fun σ vs hv=>?_) ?_⟩
 ·have:=((dH (σ:=σ) _ _ _ _ hc h1).2 []).2 vs hv
  rwa [List.append_nil] at this
 ·rintro v g' ⟨hv,rfl⟩
  exact⟨h3 v hv,rfl⟩
theorem Ae {xs:List Int} {v:TV}:∀{R:List Alt},Lv xs v R->∃v',bJ xs R v'/\∀σ x,af σ v x->af σ v' x
 | [],h=>h.elim
 | a::l,h=>by
  have rest:Lv xs v l->∃v',bJ xs (a::l) v'/\∀σ x,af σ v x->af σ v' x:=fun h=>by
   obtain⟨v',⟨b,hb,h1⟩,h2⟩:=Ae h
   exact⟨v',⟨b,by simp [hb],h1⟩,h2⟩
  unfold Lv at h
  split at h
  ·rename_i c ys hc
   rcases h with h | h
   ·obtain⟨h1,h2⟩:=fZ.1 h
    refine⟨_,⟨a,by simp,ys,(jQ (σ:=fun _=>none) _ _ _ _ hc h1).1,h2,rfl⟩,fun σ x hx=>?_⟩
    have:=((jQ (σ:=σ) _ _ _ _ hc h1).2 []).2 x hx
    rwa [List.append_nil] at this
   ·exact rest h
  ·exact rest h
def UF (v v':TV):Prop:=match v with
 | .b none=>v'= .b (some true)\/v'= .b (some false)
 | .bp p=>(p/\v'= .b (some true))\/(¬p/\v'= .b (some false))
 | v=>v'=v
theorem VC:Names Yf UF:=by
 refine⟨fun v k=>?_,fun v=>?_,fun σ v x hx=>?_⟩
 ·cases v with
  | b y=>cases y with
   | none=>exact⟨fun h v' hv=>by rcases hv with rfl | rfl;exact h.1;exact h.2,fun h=>⟨h _ (.inl rfl),h _ (.inr rfl)⟩⟩
   | some y=>exact⟨fun h v' hv=>by have hv:v'=_:=hv;subst hv;exact h,fun h=>h _ rfl⟩
  | bp p=>exact⟨fun h v' hv=>by rcases hv with⟨q,rfl⟩ | ⟨q,rfl⟩;exact h.1 q;exact h.2 q,fun h=>⟨fun q=>h _ (.inl ⟨q,rfl⟩),fun q=>h _ (.inr ⟨q,rfl⟩)⟩⟩
  | _=>exact⟨fun h v' hv=>by have hv:v'=_:=hv;subst hv;exact h,fun h=>h _ rfl⟩
 ·cases v with
  | b y=>cases y with
   | none=>exact⟨_, .inl rfl⟩
   | some y=>exact⟨_,rfl⟩
  | bp p=>
   by_cases h:p
   ·exact⟨_, .inl ⟨h,rfl⟩⟩
   ·exact⟨_, .inr ⟨h,rfl⟩⟩
  | _=>exact⟨_,rfl⟩
 ·cases v with
  | b y=>cases y with
   | none=>
    simp only [af] at hx
    obtain⟨z,rfl⟩:=hx
    cases z with
    | true=>exact⟨_, .inl rfl,by simp only [af]⟩
    | false=>exact⟨_, .inr rfl,by simp only [af]⟩
   | some y=>exact⟨_,rfl,hx⟩
  | bp p=>
   simp only [af] at hx
   obtain⟨z,rfl,hz⟩:=hx
   cases z with
   | true=>exact⟨_, .inl ⟨hz.1 rfl,rfl⟩,by simp only [af]⟩
   | false=>exact⟨_, .inr ⟨fun h=>(by have:=hz.2 h;cases this),rfl⟩,by simp only [af]⟩
  | _=>exact⟨_,rfl,hx⟩
theorem av.forks {f:FuncId} {l:List TV} {g:G} {b:Bool} {K:TV->Prop} (h:av P w0 f l g fun v g'=>N8 b v K/\g'=g):av P w0 f l g fun v g'=>K v/\g'=g:=by
 cases b with
 | false=>exact h
 | true=>
  exact .of fun σ w vs h1 h2=>CallsIn.mono (R:=fun e w'=>∃v r g' σ',e= .returned v/\(N8 true r K/\g'=g)/\aJ P w0 σ g w σ' g' w'/\af σ' r v) (h.get σ w vs h1 h2) fun e w' ⟨v,r,g',σ',h1,⟨h2,h2'⟩,h3,h4⟩=>by
   obtain⟨r',hu,hr⟩:=(Gm VC).rel σ' r v h4
   exact⟨v,r',g',σ',h1,⟨((Gm VC).iff r K).1 h2 r' hu,h2'⟩,h3,hr⟩
theorem aD.G5 {X:Nat->Option XK} {Y:iM} {IT:rq} (an:List Int->Nat->Option (List TV)) (iv:List Int->Nat->Option LI) {tab:FuncId->List TV->Option aab} {F:aab} {f:FuncId} {fn:Func} (hmx:P.follows .mixedOrders=true) (hX:∀f x,X f=some x->C8 P f x) (hY:ky P w0 Y) (hIT:au P w0 IT) (ht:∀f l F',tab f l=some F'->F'.rank < F.rank->aD P w0 f F')
  (hgo:Goes P f) (hf:P.funcs[f]?=some fn) (hne:∀xs:List Int,xs.length=TV.oD F.A->F.pre xs->∃v,bJ xs F.R v)
  (h:∀xs:List Int,xs.length=TV.oD F.A->F.pre xs->TV.dY (TV.fills F.A xs).1=true/\wFn X Y (Qc tab F.rank) IT (an xs) (iv xs) fn (TV.fills F.A xs).1 (fun v=>N8 F.fork v fun v=>Lv xs v F.R)):aD P w0 f F:=by
 have hSP:=Fu ht
 refine⟨hgo,hne,fun xs hl hp g=>?_⟩
 obtain⟨h1,h2⟩:=h xs hl hp
 refine(av.forks (Co hX hY hSP hIT (GX hmx hX hY hSP (GZ ht)) hf h1 h2 g)).Ch ?_
 rintro v g' ⟨h3,rfl⟩
 obtain⟨v',q1,q2⟩:=Ae h3
 exact⟨v',⟨q1,rfl⟩,q2⟩
end
end Go.TM
namespace Go.Proofs.YtgledbghdhjgkaaGreatDoor
open Go Go.AM Go.TM
set_option maxRecDepth 100000
theorem Tj:(Tryz.prog.funcs.all fun fn=>!(fn.name== "runtime.NumGoroutine"))=true:=by decide+kernel
theorem aO (f:FuncId) (fn:Func) (c:Code) (hf:Tryz.prog.funcs[f]?=some fn) (hb:fn.body=some c):Goes Tryz.prog f:=by
 refine Rq hf ?_ hb
 have h:=Array.all_eq_true.1 Tj f (Array.getElem?_eq_some_iff.1 hf).1
 rw [(Array.getElem?_eq_some_iff.1 hf).2] at h
 simpa using h
theorem mixed':Tryz.prog.follows .mixedOrders=true:=by decide+kernel
def xs:Nat->Option XK:=fun f=>(bif Nat.beq f 43 then some .bits else (bif Nat.beq f 74 then some .ic else (bif Nat.beq f 302 then some .sqrt else (bif Nat.beq f 315 then some .zi else (bif Nat.beq f 343 then some .zk else none)))))
theorem bG (f:Nat) (x:XK) (h:xs f=some x):C8 Tryz.prog f x:=by
 unfold xs at h
 cases e:Nat.beq f 43 with
 | true=>rw [e] at h;injection h with h;subst h;rw [Nat.eq_of_beq_eq_true e];exact⟨_,rfl,by decide+kernel,rfl,rfl,rfl⟩
 | false=>
 rw [e] at h;clear e
 cases e:Nat.beq f 74 with
 | true=>rw [e] at h;injection h with h;subst h;rw [Nat.eq_of_beq_eq_true e];exact⟨_,rfl,by decide+kernel,rfl,rfl,rfl⟩
 | false=>
 rw [e] at h;clear e
 cases e:Nat.beq f 302 with
 | true=>rw [e] at h;injection h with h;subst h;rw [Nat.eq_of_beq_eq_true e];exact⟨_,rfl,by decide+kernel,rfl,rfl,rfl⟩
 | false=>
 rw [e] at h;clear e
 cases e:Nat.beq f 315 with
 | true=>rw [e] at h;injection h with h;subst h;rw [Nat.eq_of_beq_eq_true e];exact⟨_,rfl,by decide+kernel,rfl,rfl,rfl⟩
 | false=>
 rw [e] at h;clear e
 cases e:Nat.beq f 343 with
 | true=>rw [e] at h;injection h with h;subst h;rw [Nat.eq_of_beq_eq_true e];exact⟨_,rfl,by decide+kernel,rfl,rfl,rfl⟩
 | false=>
 rw [e] at h;clear e
 cases h
def bq (ty:TypeId) (k:TK):Prop:=Tryz.prog.underlying ty=some k.d/\∃i z,Tryz.prog.info? ty=some i/\i.size=k.n/\i.bytes=k.bytes/\i.zero=some z/\(∀σ,ai σ k.z z.cells.toList)/\(k.cmp=true->Tryz.prog.stoodInHeld ty=false/\Tryz.prog.eqGuardType Tryz.prog.depth ty=false)/\WV z=Em k
theorem aG {ty:TypeId} {k:TK} (h1:Tryz.prog.underlying ty=some k.d) (h2:((Tryz.prog.info? ty).map fun i=>(i.size,i.bytes,i.zero.map fun z=>(z.cells.toList.map TV.gL,WV z)))=some (k.n,k.bytes,some (k.z,Em k))) (h3:(k.cmp&&(Tryz.prog.stoodInHeld ty||Tryz.prog.eqGuardType Tryz.prog.depth ty))=false):bq ty k:=by
 refine⟨h1,?_⟩
 cases e:Tryz.prog.info? ty with
 | none=>rw [e] at h2;cases h2
 | some i=>
  rw [e] at h2
  simp only [Option.map_some,Option.some.injEq,Prod.mk.injEq] at h2
  obtain⟨q1,q2,q3⟩:=h2
  cases ez:i.zero with
  | none=>rw [ez] at q3;cases q3
  | some z=>
   rw [ez] at q3
   simp only [Option.map_some,Option.some.injEq,Prod.mk.injEq] at q3
   refine⟨i,z,rfl,q1,q2,ez,fun σ=>?_,fun hc=>?_,q3.2⟩
   ·rw [<- q3.1]
    have:∀l:List Value,ai σ (l.map TV.gL) l:=fun l=>by
     induction l with
     | nil=>simp [TM.ai]
     | cons v l ih=>exact⟨v,l,rfl,ig v,ih⟩
    exact this _
   ·rw [hc] at h3
    simpa using h3
theorem aI {b:Bool} {x y:Option TK} {k:TK} {C:Prop} (h:(bif b then x else y)=some k) (h1:x=some k->C) (h2:y=some k->C):C:=by
 cases b with
 | true=>exact h1 h
 | false=>exact h2 h
theorem aH {n m:Nat} {t k:TK} (h:(bif Nat.beq n m then some t else none)=some k) (ht:bq m t):bq n k:=by
 cases e:Nat.beq n m with
 | true=>rw [e] at h;injection h with h;subst h;rw [Nat.eq_of_beq_eq_true e];exact ht
 | false=>rw [e] at h;cases h
theorem yk2:bq 2 tk2:=aG (by kernel_rfl) (by kernel_rfl) (by kernel_rfl)
theorem yk3:bq 3 tk3:=aG (by kernel_rfl) (by kernel_rfl) (by kernel_rfl)
theorem yk4:bq 4 tk4:=aG (by kernel_rfl) (by kernel_rfl) (by kernel_rfl)
theorem yk5:bq 5 tk5:=aG (by kernel_rfl) (by kernel_rfl) (by kernel_rfl)
theorem yk22:bq 22 tk22:=aG (by kernel_rfl) (by kernel_rfl) (by kernel_rfl)
theorem yk23:bq 23 tk23:=aG (by kernel_rfl) (by kernel_rfl) (by kernel_rfl)
theorem yk24:bq 24 tk24:=aG (by kernel_rfl) (by kernel_rfl) (by kernel_rfl)
theorem yk25:bq 25 tk25:=aG (by kernel_rfl) (by kernel_rfl) (by kernel_rfl)
theorem yk26:bq 26 tk26:=aG (by kernel_rfl) (by kernel_rfl) (by kernel_rfl)
theorem yk28:bq 28 tk28:=aG (by kernel_rfl) (by kernel_rfl) (by kernel_rfl)
theorem yk29:bq 29 tk29:=aG (by kernel_rfl) (by kernel_rfl) (by kernel_rfl)
theorem yk31:bq 31 tk31:=aG (by kernel_rfl) (by kernel_rfl) (by kernel_rfl)
theorem yk33:bq 33 tk33:=aG (by kernel_rfl) (by kernel_rfl) (by kernel_rfl)
theorem yk35:bq 35 tk35:=aG (by kernel_rfl) (by kernel_rfl) (by kernel_rfl)
theorem yk38:bq 38 tk38:=aG (by kernel_rfl) (by kernel_rfl) (by kernel_rfl)
theorem yk39:bq 39 tk39:=aG (by kernel_rfl) (by kernel_rfl) (by kernel_rfl)
theorem yk42:bq 42 tk42:=aG (by kernel_rfl) (by kernel_rfl) (by kernel_rfl)
theorem yk44:bq 44 tk44:=aG (by kernel_rfl) (by kernel_rfl) (by kernel_rfl)
theorem yk56:bq 56 tk56:=aG (by kernel_rfl) (by kernel_rfl) (by kernel_rfl)
theorem yk58:bq 58 tk58:=aG (by kernel_rfl) (by kernel_rfl) (by kernel_rfl)
theorem yk59:bq 59 tk59:=aG (by kernel_rfl) (by kernel_rfl) (by kernel_rfl)
theorem yk60:bq 60 tk60:=aG (by kernel_rfl) (by kernel_rfl) (by kernel_rfl)
theorem yk63:bq 63 tk63:=aG (by kernel_rfl) (by kernel_rfl) (by kernel_rfl)
theorem yk68:bq 68 tk68:=aG (by kernel_rfl) (by kernel_rfl) (by kernel_rfl)
theorem yk78:bq 78 tk78:=aG (by kernel_rfl) (by kernel_rfl) (by kernel_rfl)
theorem yk80:bq 80 tk80:=aG (by kernel_rfl) (by kernel_rfl) (by kernel_rfl)
theorem yk84:bq 84 tk84:=aG (by kernel_rfl) (by kernel_rfl) (by kernel_rfl)
theorem yk90:bq 90 tk90:=aG (by kernel_rfl) (by kernel_rfl) (by kernel_rfl)
theorem yk91:bq 91 tk91:=aG (by kernel_rfl) (by kernel_rfl) (by kernel_rfl)
theorem yk100:bq 100 Yg:=aG (by kernel_rfl) (by kernel_rfl) (by kernel_rfl)
theorem yk109:bq 109 Yh:=aG (by kernel_rfl) (by kernel_rfl) (by kernel_rfl)
theorem yk113:bq 113 Yi:=aG (by kernel_rfl) (by kernel_rfl) (by kernel_rfl)
theorem yk118:bq 118 Yj:=aG (by kernel_rfl) (by kernel_rfl) (by kernel_rfl)
theorem yk125:bq 125 Yk:=aG (by kernel_rfl) (by kernel_rfl) (by kernel_rfl)
theorem yk135:bq 135 Yl:=aG (by kernel_rfl) (by kernel_rfl) (by kernel_rfl)
theorem yk141:bq 141 Ym:=aG (by kernel_rfl) (by kernel_rfl) (by kernel_rfl)
theorem yk142:bq 142 Yn:=aG (by kernel_rfl) (by kernel_rfl) (by kernel_rfl)
theorem yk149:bq 149 Yo:=aG (by kernel_rfl) (by kernel_rfl) (by kernel_rfl)
theorem yk151:bq 151 Yp:=aG (by kernel_rfl) (by kernel_rfl) (by kernel_rfl)
theorem yk153:bq 153 Yq:=aG (by kernel_rfl) (by kernel_rfl) (by kernel_rfl)
theorem yk158:bq 158 Yr:=aG (by kernel_rfl) (by kernel_rfl) (by kernel_rfl)
theorem yk161:bq 161 Yt:=aG (by kernel_rfl) (by kernel_rfl) (by kernel_rfl)
theorem yk178:bq 178 Yu:=aG (by kernel_rfl) (by kernel_rfl) (by kernel_rfl)
theorem yk181:bq 181 Yv:=aG (by kernel_rfl) (by kernel_rfl) (by kernel_rfl)
theorem yk190:bq 190 Yw:=aG (by kernel_rfl) (by kernel_rfl) (by kernel_rfl)
theorem yk195:bq 195 Yx:=aG (by kernel_rfl) (by kernel_rfl) (by kernel_rfl)
theorem yk197:bq 197 Yy:=aG (by kernel_rfl) (by kernel_rfl) (by kernel_rfl)
theorem yk200:bq 200 Yz:=aG (by kernel_rfl) (by kernel_rfl) (by kernel_rfl)
theorem yk202:bq 202 YA:=aG (by kernel_rfl) (by kernel_rfl) (by kernel_rfl)
theorem yk210:bq 210 YB:=aG (by kernel_rfl) (by kernel_rfl) (by kernel_rfl)
theorem yk212:bq 212 YC:=aG (by kernel_rfl) (by kernel_rfl) (by kernel_rfl)
theorem yk218:bq 218 YD:=aG (by kernel_rfl) (by kernel_rfl) (by kernel_rfl)
theorem yk233:bq 233 YE:=aG (by kernel_rfl) (by kernel_rfl) (by kernel_rfl)
theorem yk243:bq 243 YF:=aG (by kernel_rfl) (by kernel_rfl) (by kernel_rfl)
theorem yk245:bq 245 YG:=aG (by kernel_rfl) (by kernel_rfl) (by kernel_rfl)
theorem yk251:bq 251 YH:=aG (by kernel_rfl) (by kernel_rfl) (by kernel_rfl)
theorem yk253:bq 253 YI:=aG (by kernel_rfl) (by kernel_rfl) (by kernel_rfl)
theorem yk258:bq 258 YJ:=aG (by kernel_rfl) (by kernel_rfl) (by kernel_rfl)
theorem yk260:bq 260 YK:=aG (by kernel_rfl) (by kernel_rfl) (by kernel_rfl)
theorem yk264:bq 264 YL:=aG (by kernel_rfl) (by kernel_rfl) (by kernel_rfl)
theorem yk276:bq 276 YM:=aG (by kernel_rfl) (by kernel_rfl) (by kernel_rfl)
theorem yk295:bq 295 YN:=aG (by kernel_rfl) (by kernel_rfl) (by kernel_rfl)
theorem yk301:bq 301 YO:=aG (by kernel_rfl) (by kernel_rfl) (by kernel_rfl)
theorem yk303:bq 303 YP:=aG (by kernel_rfl) (by kernel_rfl) (by kernel_rfl)
theorem yk313:bq 313 YQ:=aG (by kernel_rfl) (by kernel_rfl) (by kernel_rfl)
theorem yk316:bq 316 YR:=aG (by kernel_rfl) (by kernel_rfl) (by kernel_rfl)
theorem yk323:bq 323 YS:=aG (by kernel_rfl) (by kernel_rfl) (by kernel_rfl)
theorem yk331:bq 331 YT:=aG (by kernel_rfl) (by kernel_rfl) (by kernel_rfl)
theorem yk333:bq 333 YU:=aG (by kernel_rfl) (by kernel_rfl) (by kernel_rfl)
theorem yk338:bq 338 YV:=aG (by kernel_rfl) (by kernel_rfl) (by kernel_rfl)
theorem yk348:bq 348 YW:=aG (by kernel_rfl) (by kernel_rfl) (by kernel_rfl)
theorem yk352:bq 352 YX:=aG (by kernel_rfl) (by kernel_rfl) (by kernel_rfl)
theorem yk365:bq 365 YY:=aG (by kernel_rfl) (by kernel_rfl) (by kernel_rfl)
theorem yk366:bq 366 YZ:=aG (by kernel_rfl) (by kernel_rfl) (by kernel_rfl)
theorem yk371:bq 371 Y0:=aG (by kernel_rfl) (by kernel_rfl) (by kernel_rfl)
theorem yk374:bq 374 Y1:=aG (by kernel_rfl) (by kernel_rfl) (by kernel_rfl)
theorem yk375:bq 375 Y2:=aG (by kernel_rfl) (by kernel_rfl) (by kernel_rfl)
theorem yk389:bq 389 Y3:=aG (by kernel_rfl) (by kernel_rfl) (by kernel_rfl)
theorem yk396:bq 396 Y4:=aG (by kernel_rfl) (by kernel_rfl) (by kernel_rfl)
theorem yk398:bq 398 Y5:=aG (by kernel_rfl) (by kernel_rfl) (by kernel_rfl)
theorem yk402:bq 402 Y6:=aG (by kernel_rfl) (by kernel_rfl) (by kernel_rfl)
theorem bI {w0:World}:ky Tryz.prog w0 Y7:=⟨fun n k h=>(show bq n k from(fun h=>aI h (fun h=>aI h (fun h=>aI h (fun h=>aI h (fun h=>aI h (fun h=>aI h (fun h=>aH h yk2) (fun h=>aH h yk3)) (fun h=>aI h (fun h=>aH h yk4) (fun h=>aI h (fun h=>aH h yk5) (fun h=>aH h yk22)))) (fun h=>aI h (fun h=>aI h (fun h=>aH h yk23) (fun h=>aH h yk24)) (fun h=>aI h (fun h=>aH h yk25) (fun h=>aI h (fun h=>aH h yk26) (fun h=>aH h yk28))))) (fun h=>aI h (fun h=>aI h (fun h=>aI h (fun h=>aH h yk29) (fun h=>aH h yk31)) (fun h=>aI h (fun h=>aH h yk33) (fun h=>aI h (fun h=>aH h yk35) (fun h=>aH h yk38)))) (fun h=>aI h (fun h=>aI h (fun h=>aH h yk39) (fun h=>aH h yk42)) (fun h=>aI h (fun h=>aH h yk44) (fun h=>aI h (fun h=>aH h yk56) (fun h=>aH h yk58)))))) (fun h=>aI h (fun h=>aI h (fun h=>aI h (fun h=>aI h (fun h=>aH h yk59) (fun h=>aH h yk60)) (fun h=>aI h (fun h=>aH h yk63) (fun h=>aI h (fun h=>aH h yk68) (fun h=>aH h yk78)))) (fun h=>aI h (fun h=>aI h (fun h=>aH h yk80) (fun h=>aH h yk84)) (fun h=>aI h (fun h=>aH h yk90) (fun h=>aI h (fun h=>aH h yk91) (fun h=>aH h yk100))))) (fun h=>aI h (fun h=>aI h (fun h=>aI h (fun h=>aH h yk109) (fun h=>aH h yk113)) (fun h=>aI h (fun h=>aH h yk118) (fun h=>aI h (fun h=>aH h yk125) (fun h=>aH h yk135)))) (fun h=>aI h (fun h=>aI h (fun h=>aH h yk141) (fun h=>aH h yk142)) (fun h=>aI h (fun h=>aH h yk149) (fun h=>aI h (fun h=>aH h yk151) (fun h=>aH h yk153))))))) (fun h=>aI h (fun h=>aI h (fun h=>aI h (fun h=>aI h (fun h=>aI h (fun h=>aH h yk158) (fun h=>aH h yk161)) (fun h=>aI h (fun h=>aH h yk178) (fun h=>aI h (fun h=>aH h yk181) (fun h=>aH h yk190)))) (fun h=>aI h (fun h=>aI h (fun h=>aH h yk195) (fun h=>aH h yk197)) (fun h=>aI h (fun h=>aH h yk200) (fun h=>aI h (fun h=>aH h yk202) (fun h=>aH h yk210))))) (fun h=>aI h (fun h=>aI h (fun h=>aI h (fun h=>aH h yk212) (fun h=>aH h yk218)) (fun h=>aI h (fun h=>aH h yk233) (fun h=>aI h (fun h=>aH h yk243) (fun h=>aH h yk245)))) (fun h=>aI h (fun h=>aI h (fun h=>aH h yk251) (fun h=>aH h yk253)) (fun h=>aI h (fun h=>aH h yk258) (fun h=>aI h (fun h=>aH h yk260) (fun h=>aH h yk264)))))) (fun h=>aI h (fun h=>aI h (fun h=>aI h (fun h=>aI h (fun h=>aH h yk276) (fun h=>aH h yk295)) (fun h=>aI h (fun h=>aH h yk301) (fun h=>aI h (fun h=>aH h yk303) (fun h=>aH h yk313)))) (fun h=>aI h (fun h=>aI h (fun h=>aH h yk316) (fun h=>aH h yk323)) (fun h=>aI h (fun h=>aH h yk331) (fun h=>aI h (fun h=>aH h yk333) (fun h=>aH h yk338))))) (fun h=>aI h (fun h=>aI h (fun h=>aI h (fun h=>aH h yk348) (fun h=>aH h yk352)) (fun h=>aI h (fun h=>aH h yk365) (fun h=>aI h (fun h=>aH h yk366) (fun h=>aH h yk371)))) (fun h=>aI h (fun h=>aI h (fun h=>aH h yk374) (fun h=>aI h (fun h=>aH h yk375) (fun h=>aH h yk389))) (fun h=>aI h (fun h=>aH h yk396) (fun h=>aI h (fun h=>aH h yk398) (fun h=>aH h yk402)))))))) h), .inl rfl⟩
end Go.Proofs.YtgledbghdhjgkaaGreatDoor
