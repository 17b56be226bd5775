/-
  A part of the proof that TopSteps answers true for every input that can be read as data.
-/
import Derived.Test.YtgledbghdhjgkaaGreatDoorZD
import Derived.Test.YtgledbghdhjgkaaGreatDoorZA
set_option linter.unusedSimpArgs false
set_option linter.unusedVariables false
namespace Go.AM
open Go Go.RowKit
theorem jE (h:aj) (o:ax):(h.push o).get=Mem.push h.get h.next o:=by funext i;rw [aj.oG];rfl
theorem ny (h:aj) {d:Nat} (o:ax) (hd:d < h.next):(h.set d o).get=Mem.set h.get d o:=by funext i;rw [aj.aK _ _ _ _ hd];rfl
theorem De (h:aj) (d:Nat):(h.del d).get=Mem.del h.get d:=by funext i;rw [aj.Q8];rfl
structure jl (h h':aj):Prop where
 next:h.next<=h'.next
 lo:h'.lo<=h.lo
 get:∀d,d < h'.lo->d < h.next->h'.get d=h.get d
theorem jl.refl (h:aj):jl h h:=⟨Nat.le_refl _,Nat.le_refl _,fun _ _ _=>rfl⟩
theorem jl.trans {h h1 h2:aj} (a:jl h h1) (b:jl h1 h2):jl h h2:=
 ⟨Nat.le_trans a.next b.next,Nat.le_trans b.lo a.lo,fun d h1 h2=>(b.get d h1 (Nat.lt_of_lt_of_le h2 a.next)).trans (a.get d (Nat.lt_of_lt_of_le h1 b.lo) h2)⟩
theorem jl.push (h:aj) (o:ax):jl h (h.push o):=⟨by simp,Nat.le_refl _,fun d _ hd=>by rw [aj.oG,if_neg (by omega)]⟩
theorem jl.set (h:aj) {d:Nat} (o:ax) (hd:d < h.next):jl h (h.set d o):=⟨by simp,Nat.min_le_left _ _,fun e he _=>by
 have:e < d:=Nat.lt_of_lt_of_le he (Nat.min_le_right _ _)
 rw [aj.aK _ _ _ _ hd,if_neg (by omega)]⟩
theorem jl.del (h:aj) (d:Nat):jl h (h.del d):=⟨by simp,Nat.min_le_left _ _,fun e he _=>by
 have:e < d:=Nat.lt_of_lt_of_le he (Nat.min_le_right _ _)
 rw [aj.Q8,if_neg (by omega)]⟩
theorem RB (h:aj) (e:Ef) (hk:e.fits h.next=true):(e.app h).get=e.mem h.get h.next/\(e.app h).next=e.TL h.next/\jl h (e.app h):=by
 cases e with
 | none=>exact⟨rfl,rfl,jl.refl h⟩
 | push o=>exact⟨jE h o,rfl,jl.push h o⟩
 | set d o=>
  have hd:d < h.next:=by simpa [Ef.fits,Nat.blt_eq] using hk
  exact⟨ny h o hd,rfl,jl.set h o hd⟩
 | move d o=>
  refine⟨?_,rfl,(jl.del h d).trans (jl.push (h.del d) o)⟩
  show((h.del d).push o).get=_
  rw [jE,De]
  rfl
theorem zH {c:aS} (h:aS.test c=true):c.ok:=by
 intro p hp
 have:=List.all_eq_true.1 h p hp
 simpa using this
def jw.s (s:jw):bY:=⟨s.t,s.d,s.h.get,s.h.next⟩
end Go.AM
namespace Go.AM
open Go Go.RowKit
section
variable {P:Program} {w0:World} {ro:Option Nat}
structure PC (P:Program) (w0:World) (ro:Option Nat) (ops:Array Oper) (s:bY) (full:List Rec):Prop where
 pw:full.Pairwise jy
 ok:∀l r e,full=l++r::e->zF s r e
 op:∀l r e,full=l++r::e->∃o,ops[r.i]?=some o/\o.dst=r.dst/\(∀ed∈o.after,Region.binds .any ed=true->∃b∈e,b.i=ed.on)/\
  (∀j,r.kK j=true->∃ed∈o.after,Region.binds .any ed=true/\(ed.on=j\/∃b∈e,b.i=ed.on/\b.kK j=true))/\Step P w0 ro ops s r e o
theorem PC.nil {ops:Array Oper} {s:bY}:PC P w0 ro ops s []:=⟨List.Pairwise.nil,fun l r e h=>by simp at h,fun l r e h=>by simp at h⟩
theorem PC.snoc {ops:Array Oper} {s:bY} {full:List Rec} (h:PC P w0 ro ops s full) {r:Rec} (h1:∀b∈full,jy r b) (h2:zF s r full)
  (h3:∃o,ops[r.i]?=some o/\o.dst=r.dst/\(∀ed∈o.after,Region.binds .any ed=true->∃b∈full,b.i=ed.on)/\
   (∀j,r.kK j=true->∃ed∈o.after,Region.binds .any ed=true/\(ed.on=j\/∃b∈full,b.i=ed.on/\b.kK j=true))/\Step P w0 ro ops s r full o):PC P w0 ro ops s (r::full):=by
 refine⟨List.Pairwise.cons h1 h.pw,fun l x e hf=>?_,fun l x e hf=>?_⟩
 ·cases l with
  | nil=>injection hf with e1 e2;subst e1 e2;exact h2
  | cons y l=>injection hf with e1 e2;exact h.ok l x e e2
 ·cases l with
  | nil=>injection hf with e1 e2;subst e1 e2;exact h3
  | cons y l=>injection hf with e1 e2;exact h.op l x e e2
theorem PC.cert {ops:Array Oper} {s:bY} {full:List Rec} (h:PC P w0 ro ops s full) (ha:∀i o,ops[i]?=some o->∃r∈full,r.i=i):UB P w0 ro ops s full:=⟨h.pw,h.ok,ha,h.op⟩
structure ZL (b:DR) (r:Rec):Prop where
 i:r.i=b.i
 dst:r.dst=b.dst
 kK:r.kK=bK b.kK
 look:r.look=bK b.look
 qY:r.qY=b.wrote
 lo:r.lo=b.lo
 hi:r.hi=b.hi
 ch:r.ch=b.ch
 domlt:∀d,r.dom d=true->d < r.lo
 tchlt:∀d,r.qY d=true->d < r.hi
structure Mid (P:Program) (w0:World) (ro:Option Nat) (ops:Array Oper) (s0:bY) (rs:List DR) (full:List Rec) (s:jw):Prop where
 pc:PC P w0 ro ops s0 full
 PR:(∀b∈rs,∃r∈full,ZL b r)/\∀r∈full,∃b∈rs,ZL b r
 st:s.s=qH s0 full s.h.next
 hi:∀r∈full,r.hi<=s.h.next
 n0:s0.N<=s.h.next
theorem SB (s0:bY) (full:List Rec) (r:Rec) (N N':Nat):(qH s0 (r::full) N').t=eG (qH s0 full N).t r.dst r.v:=by
 cases hd:r.dst with
 | none=>
  simp only [qH,eG]
  refine List.map_congr_left fun x hx=>?_
  simp [tF,hd,ou]
 | some d=>
  simp only [qH,eG]
  refine List.ext_getElem? fun x=>?_
  rw [List.getElem?_set]
  by_cases hx:x < s0.t.length
  ·by_cases hdx:d=x
   ·subst hdx
    simp [tF,hd,ou,hx]
   ·have hne:¬some d=some x:=fun q=>hdx (by injection q)
    simp [tF,hd,ou,hx,hdx]
  ·by_cases hdx:d=x
   ·subst hdx;simp [hx]
   ·simp [hx,hdx]
theorem PS (s0:bY) (full:List Rec) (r:Rec) (d:Nat):gT s0 (r::full) d=if r.qY d=true then r.g' d else gT s0 full d:=by
 unfold gT
 simp only [mF,ou,true_and]
 split
 ·rfl
 ·split<;>rfl
theorem Nv:∀{rs:List DR} {j k:Nat},k∈MS rs j->∃b∈rs,b.i=j/\k∈b.kK
 | [],j,k,h=>by simp [MS] at h
 | b::rs,j,k,h=>by
  simp only [MS] at h
  by_cases hb:Nat.beq b.i j=true
  ·rw [if_pos hb] at h
   exact⟨b,by simp,Nat.eq_of_beq_eq_true hb,h⟩
  ·rw [if_neg hb] at h
   obtain⟨c,h1,h2⟩:=Nv h
   exact⟨c,by simp [h1],h2⟩
theorem Nw {ops:Array Oper} {s0:bY} {rs:List DR} {full:List Rec} {s:jw} (hm:Mid P w0 ro ops s0 rs full s) {i:Nat} {o:Oper} (h:E8 rs i o (kP rs o) (kJ ops o)=true):
  (∀ed∈o.after,Region.binds .any ed=true->∃b∈full,b.i=ed.on)/\
  (∀j,bK (kP rs o) j=true->∃ed∈o.after,Region.binds .any ed=true/\(ed.on=j\/∃b∈full,b.i=ed.on/\b.kK j=true))/\
  (∀b∈full,b.i≠i/\b.kK i=false/\(∀x,o.dst=some x->b.dst≠some x)/\(bK (kP rs o) b.i=false->(∀x,b.dst=some x->bK (kJ ops o) x=false)/\∀x,o.dst=some x->b.look x=false)):=by
 simp only [E8,Bool.and_eq_true,List.all_eq_true,List.any_eq_true] at h
 obtain⟨h1,h2⟩:=h
 have hbin:∀ed,ed∈o.after->Region.binds .any ed=true->ed.on∈vv o:=fun ed he hb=>by
  simp only [vv,List.mem_map,List.mem_filter]
  exact⟨ed,⟨by simpa using he,hb⟩,rfl⟩
 refine⟨fun ed he hb=>?_,fun j hj=>?_,fun r hr=>?_⟩
 ·obtain⟨b,hb1,hb2⟩:=h1 _ (hbin ed he hb)
  obtain⟨r,hr,hc⟩:=hm.PR.1 b hb1
  exact⟨r,hr,by rw [hc.i];exact Nat.eq_of_beq_eq_true hb2⟩
 ·rw [gB] at hj
  simp only [kP,List.mem_flatMap,List.mem_cons] at hj
  obtain⟨k,hk,hj⟩:=hj
  simp only [vv,List.mem_map,List.mem_filter] at hk
  obtain⟨ed,⟨he,hb⟩,rfl⟩:=hk
  refine⟨ed,by simpa using he,hb,?_⟩
  rcases hj with hj | hj
  ·exact .inl hj.symm
  ·obtain⟨b,hb1,hb2,hb3⟩:=Nv hj
   obtain⟨r,hr,hc⟩:=hm.PR.1 b hb1
   exact .inr ⟨r,hr,by rw [hc.i];exact hb2,by rw [hc.kK];exact gB.2 hb3⟩
 ·obtain⟨b,hb,hc⟩:=hm.PR.2 r hr
  have:=h2 b hb
  simp only [Bool.and_eq_true,Bool.or_eq_true,Bool.not_eq_true'] at this
  obtain⟨⟨⟨q1,q2⟩,q3⟩,q4⟩:=this
  refine⟨?_,by rw [hc.kK];exact q2,fun x hx hx2=>?_,fun hu=>?_⟩
  ·rw [hc.i]
   intro e
   rw [e] at q1
   simp at q1
  ·rw [hc.dst] at hx2
   rw [hx,hx2] at q3
   simp [Rc] at q3
  ·rw [hc.i] at hu
   rcases q4 with q4 | ⟨q4,q5⟩
   ·rw [hu] at q4;cases q4
   ·refine⟨fun x hx=>?_,fun x hx=>?_⟩
    ·rw [hc.dst] at hx
     rw [hx] at q4
     exact q4
    ·rw [hc.look]
     rw [hx] at q5
     exact q5
theorem JX (s0:bY) (full:List Rec) (r:Rec) (N:Nat) {x:Nat} (hx:r.look x=true):slot (jk s0 r full) x=slot (qH s0 full N).t x:=by
 rw [dR,dR,List.getD_eq_getElem?_getD,List.getD_eq_getElem?_getD]
 by_cases h:x < s0.t.length
 ·simp [jk,qH,h,hx]
 ·simp [jk,qH,h]
theorem Lj {ops:Array Oper} {s0:bY} {full:List Rec} {r:Rec} {N:Nat} {o:Oper} (hl:r.look=bK (kJ ops o)):∀x∈o.op.operands.toList,ev (jk s0 r full) x=ev (qH s0 full N).t x:=by
 intro x hx
 cases x with
 | tmp t=>
  refine JX s0 full r N ?_
  rw [hl]
  refine gB.2 (List.mem_append_left _ (List.mem_filterMap.2 ⟨.tmp t,hx,rfl⟩))
 | const v=>rfl
 | global q=>rfl
 | func f=>rfl
theorem Ny {ops:Array Oper} {s0:bY} {full:List Rec} {r:Rec} {N:Nat} {o:Oper} (hl:r.look=bK (kJ ops o)):fG ops (jk s0 r full) o=fG ops (qH s0 full N).t o:=by
 unfold fG
 split
 ·rfl
 ·rename_i j want hg
  split
  ·rename_i d hd
   rw [JX s0 full r N]
   rw [hl]
   refine gB.2 (List.mem_append_right _ ?_)
   rw [hg]
   simp [hd]
  ·rfl
noncomputable def Nz (fr n:Nat) (d:Nat):Option (List Nat)->Bool
 | some l=>bK l d
 | none=>Nat.ble fr d&&Nat.blt d n
theorem sP {ops:Array Oper} {s0:bY} {rs:List DR} {full:List Rec} {s:jw} (hm:Mid P w0 ro ops s0 rs full s) {i:Nat} {o:Oper} (ho:ops[i]?=some o) (hs:E8 rs i o (kP rs o) (kJ ops o)=true) {v:AV} {h':aj} {old:Option (List Nat)} {ch:Bool} {fr:Nat} {dom:Nat->Bool}
  (hn:s.h.next<=h'.next) (hold:∀l,old=some l->∀d∈l,d < s.h.next)
  (hget:∀d,d < s.h.next->Nz fr s.h.next d old=false->h'.get d=s.h.get d)
  (hdom:∀d,dom d=true->d < s.h.next) (hchd:ch=true->(∀d,d < s.h.next->dom d=true)/\∀b∈rs,bK (kP rs o) b.i=true)
  (hP:ch=false->old=some []/\(∀b∈rs,bK (kP rs o) b.i=false->∀d,b.wrote d=true->dom d=false)/\∀d o,s.h.next<=d->h'.get d=some o->o.ro=false)
  (hstep:∀r:Rec,r.i=i->r.look=bK (kJ ops o)->r.v=v->r.g'=h'.get->r.lo=s.h.next->r.hi=h'.next->r.ch=ch->r.dom=dom->Step P w0 ro ops s0 r full o):
  ∃r,Mid P w0 ro ops s0 (⟨i,o.dst,kP rs o,kJ ops o,old,s.h.next,h'.next,ch,fr⟩::rs) (r::full) ⟨eG s.t o.dst v,s.d,h'⟩:=by
 obtain⟨k1,k2,k3⟩:=Nw hm hs
 have hst:=hm.st
 have hvg:gT s0 full=s.h.get:=by have:=congrArg bY.g hst;exact this.symm
 have hst_t:s.t=(qH s0 full s.h.next).t:=congrArg bY.t hst
 have hst_d:s.d=s0.d:=congrArg bY.d hst
 let b:DR:=⟨i,o.dst,kP rs o,kJ ops o,old,s.h.next,h'.next,ch,fr⟩
 let r:Rec:={i:=i,dst:=o.dst,v:=v,g':=h'.get,qY:=b.wrote,lo:=s.h.next,hi:=h'.next,kK:=bK (kP rs o),look:=bK (kJ ops o),dom:=dom,ch:=ch}
 have hwr:∀d,b.wrote d=true↔(s.h.next<=d/\d < h'.next)\/Nz fr s.h.next d old=true:=by
  intro d
  have e:b.wrote d=(Nat.ble s.h.next d&&Nat.blt d h'.next||Nz fr s.h.next d old):=by cases old<;>rfl
  rw [e]
  simp [Nat.blt_eq]
 have htl:∀d,b.wrote d=true->d < h'.next:=by
  intro d hd
  rcases(hwr d).1 hd with h | h
  ·exact h.2
  ·cases hO:old with
   | none=>rw [hO] at h;simp [Nz,Nat.blt_eq] at h;omega
   | some l=>rw [hO] at h;have:=hold l hO d (gB.1 h);omega
 have hwP:ch=false->∀d,b.wrote d=true->s.h.next<=d/\d < h'.next:=by
  intro hc d hd
  obtain⟨h0,_⟩:=hP hc
  rcases(hwr d).1 hd with h | h
  ·exact h
  ·rw [h0] at h;cases h
 have X6:ZL b r:=⟨rfl,rfl,rfl,rfl,rfl,rfl,rfl,rfl,hdom,htl⟩
 have hok:zF s0 r full:=by
  refine⟨hm.n0,hn,fun d o h=>aj.kI h,fun d h1 h2=>(hwr d).2 (.inl ⟨h1,h2⟩),fun hc d hd=>?_,fun hc d hd=>⟨(hchd hc).1 d hd,fun ht=>?_⟩,fun d o h=>by rw [hvg] at h;exact aj.kI h⟩
  ·obtain⟨h1,h2⟩:=hwP hc d hd
   exact⟨h1,h2,fun o ho=>(hP hc).2.2 d o h1 ho⟩
  ·show h'.get d=gT s0 full d
   rw [hvg]
   refine hget d hd ?_
   have hn':¬b.wrote d=true:=by rw [show b.wrote d=false from ht];simp
   cases hq:Nz fr s.h.next d old with
   | false=>rfl
   | true=>exact absurd ((hwr d).2 (.inr hq)) hn'
 have hokay:∀a∈full,jy r a:=by
  intro a ha
  obtain⟨b',hb',hc'⟩:=hm.PR.2 a ha
  obtain⟨q1,q2,q3,q4⟩:=k3 a ha
  have hle:a.hi<=s.h.next:=hm.hi a ha
  have hch:ch=true->bK (kP rs o) a.i=true:=fun hc=>by rw [hc'.i];exact(hchd hc).2 b' hb'
  have hnc:bK (kP rs o) a.i=false->ch=false:=fun hu=>by
   cases hc:ch with
   | false=>rfl
   | true=>have:=hch hc;rw [hu] at this;cases this
  refine⟨fun e=>q1 e.symm,q2,q3,hle,hch,fun hu x hx=>(q4 hu).1 x hx,fun hu x hx=>(q4 hu).2 x hx,fun hu d hd=>?_,fun hu d hd=>?_,fun hu d hd=>?_⟩
  ·have hc:=hnc hu
   rw [hc'.qY] at hd
   have hu':bK (kP rs o) b'.i=false:=by rw [<- hc'.i];exact hu
   exact(hP hc).2.1 b' hb' hu' d hd
  ·have h1:=(hwP (hnc hu) d hd).1
   cases hq:a.dom d with
   | false=>rfl
   | true=>
    have h2:=hc'.domlt d hq
    have h3:=(hm.pc.ok)
    obtain⟨l1,l2,hf⟩:=List.append_of_mem ha
    have h4:=(h3 l1 a l2 hf).le
    omega
  ·cases hq:r.qY d with
   | false=>rfl
   | true=>
    have h1:=(hwP (hnc hu) d hq).1
    have h2:=hc'.tchlt d hd
    omega
 refine⟨r,⟨hm.pc.snoc hokay hok ⟨o,ho,rfl,k1,k2,hstep r rfl rfl rfl rfl rfl rfl rfl rfl⟩,⟨fun c hc=>?_,fun c hc=>?_⟩,?_,fun c hc=>?_,Nat.le_trans hm.n0 hn⟩⟩
 ·rcases List.mem_cons.1 hc with rfl | hc
  ·exact⟨r,by simp,X6⟩
  ·obtain⟨q,h1,h2⟩:=hm.PR.1 c hc
   exact⟨q,by simp [h1],h2⟩
 ·rcases List.mem_cons.1 hc with rfl | hc
  ·exact⟨b,by simp [b],X6⟩
  ·obtain⟨q,h1,h2⟩:=hm.PR.2 c hc
   exact⟨q,by simp [h1],h2⟩
 ·have e1:eG s.t o.dst v=(qH s0 (r::full) h'.next).t:=by rw [SB s0 full r s.h.next, <- hst_t]
  have e2:h'.get=gT s0 (r::full):=by
   funext d
   rw [PS]
   by_cases ht:r.qY d=true
   ·rw [if_pos ht]
   ·rw [if_neg ht,hvg]
    by_cases hd:d < s.h.next
    ·refine hget d hd ?_
     cases hq:Nz fr s.h.next d old with
     | false=>rfl
     | true=>exact absurd ((hwr d).2 (.inr hq)) ht
    ·have:¬d < h'.next:=fun q=>ht ((hwr d).2 (.inl ⟨by omega,q⟩))
     rw [show h'.get d=none from by unfold aj.get;rw [if_neg this],show s.h.get d=none from by unfold aj.get;rw [if_neg hd]]
  show(⟨eG s.t o.dst v,s.d,h'.get,h'.next⟩:bY)=_
  rw [e1,e2,hst_d]
  rfl
 ·rcases List.mem_cons.1 hc with rfl | hc
  ·exact Nat.le_refl _
  ·exact Nat.le_trans (hm.hi c hc) hn
end
end Go.AM
namespace Go.AM
open Go Go.RowKit
section
variable {P:Program} {w0:World}
def Claim (P:Program) (w0:World):Task->gQ->Prop
 | .code ro c s, .st e s'=>jl s.h s'.h/\AW P w0 ro c (fun e' q=>e'=e/\q=s'.s) s.s/\∀x,c= .loop x->wP P w0 ro x (fun e' q=>e'=e/\q=s'.s) s.s
 | .ops ro ops l s, .st e s'=>e= .normal/\jl s.h s'.h/\vT P w0 ro ops (fun q=>q=s'.s) l s.s
 | .op ro o s, .val v h=>jl s.h h/\∀t',(∀x∈o.op.operands.toList,ev t' x=ev s.t x)->JS P w0 ro o ⟨t',s.d,s.h.get,s.h.next⟩ fun v' g N=>v'=v/\g=h.get/\N=h.next
 | .draw ro ops l rs s, .st e s'=>e= .normal/\jl s.h s'.h/\∀s0 full,Mid P w0 ro ops s0 rs full s->∃rs' JY,Mid P w0 ro ops s0 rs' JY s'/\∀i o,ops[i]?=some o->∃r∈JY,r.i=i
 | .fn f args h, .val v h'=>jl h h'/\Goes P f/\jC P w0 f args h.get h.next fun v' g N=>v'=v/\g=h'.get/\N=h'.next
 | _,_=>False
theorem FZ (ops:Array Oper) (t:List AV) (o:Oper):KW ops t o=fG ops t o:=rfl
def Hyp (P:Program) (w0:World) (rec:eP):Prop:=∀t r,rec t=some r->Claim P w0 t r
theorem lI {rec:eP} (ih:Hyp P w0 rec) {ro:Option Nat} {c:Code} {s:jw} {r:gQ} (h:rec (.code ro c s)=some r):∃e s',r= .st e s'/\jl s.h s'.h/\AW P w0 ro c (fun e' q=>e'=e/\q=s'.s) s.s/\∀x,c= .loop x->wP P w0 ro x (fun e' q=>e'=e/\q=s'.s) s.s:=by
 have:=ih _ _ h
 cases r with
 | st e s'=>exact⟨e,s',rfl,this⟩
 | val v h=>exact this.elim
theorem JZ {rec:eP} (ih:Hyp P w0 rec) {ro:Option Nat} {a b:Code} {s:jw} {r:gQ} (h:Zx rec ro b (rec (.code ro a s))=some r):∃e s',r= .st e s'/\jl s.h s'.h/\AW P w0 ro (.seq a b) (fun e' q=>e'=e/\q=s'.s) s.s/\
  ((b= .loop a)->wP P w0 ro a (fun e' q=>e'=e/\q=s'.s) s.s):=by
 cases h1:rec (.code ro a s) with
 | none=>rw [h1] at h;cases h
 | some r1=>
  obtain⟨e1,s1,rfl,l1,w1,_⟩:=lI ih h1
  rw [h1] at h
  by_cases hn:e1= .normal
  ·subst hn
   have h2:rec (.code ro b s1)=some r:=h
   obtain⟨e2,s2,rfl,l2,w2,w3⟩:=lI ih h2
   refine⟨e2,s2,rfl,l1.trans l2,AW.seq (w1.mono ?_),fun hb=>wP.step (w1.mono ?_)⟩
   ·rintro e' q ⟨rfl,rfl⟩;exact w2
   ·rintro e' q ⟨rfl,rfl⟩;exact w3 a hb
  ·have hr:r= .st e1 s1:=by
    cases e1<;>first | exact absurd rfl hn | (injection h with h;exact h.symm)
   subst hr
   refine⟨e1,s1,rfl,l1,AW.seq (w1.mono ?_),fun hb=>wP.step (w1.mono ?_)⟩
   ·rintro e' q ⟨rfl,rfl⟩
    cases e'<;>first | exact absurd rfl hn | exact⟨rfl,rfl⟩
   ·rintro e' q ⟨rfl,rfl⟩
    cases e'<;>first | exact absurd rfl hn | exact⟨rfl,rfl⟩
theorem NA {rec:eP} (ih:Hyp P w0 rec) {ro:Option Nat} {i:Nat} {a:Code} {s:jw} {r:gQ} (h:Pz i (rec (.code ro a s))=some r):∃e s',r= .st e s'/\jl s.h s'.h/\AW P w0 ro (.block i a) (fun e' q=>e'=e/\q=s'.s) s.s:=by
 cases h1:rec (.code ro a s) with
 | none=>rw [h1] at h;cases h
 | some r1=>
  obtain⟨e1,s1,rfl,l1,w1,_⟩:=lI ih h1
  rw [h1] at h
  by_cases hx:∃j,e1= .exit j
  ·obtain⟨j,rfl⟩:=hx
   simp only [Pz] at h
   split at h
   ·rename_i hj
    injection h with h;subst h
    refine⟨_,s1,rfl,l1,AW.block (w1.mono ?_)⟩
    rintro e' q ⟨rfl,rfl⟩
    simp only [ik,hj,if_true]
    exact⟨trivial,trivial⟩
   ·rename_i hj
    injection h with h;subst h
    refine⟨_,s1,rfl,l1,AW.block (w1.mono ?_)⟩
    rintro e' q ⟨rfl,rfl⟩
    simp only [ik,hj,if_false]
    exact⟨trivial,trivial⟩
  ·have hr:r= .st e1 s1:=by
    cases e1<;>first | exact absurd ⟨_,rfl⟩ hx | (injection h with h;exact h.symm)
   subst hr
   refine⟨e1,s1,rfl,l1,AW.block (w1.mono ?_)⟩
   rintro e' q ⟨rfl,rfl⟩
   cases e'<;>first | exact absurd ⟨_,rfl⟩ hx | exact⟨rfl,rfl⟩
theorem NB {rec:eP} (ih:Hyp P w0 rec) {ro:Option Nat} {a:Code} {s:jw} {r:gQ} (h:Uf (rec (.code ro a s))=some r):∃e s',r= .st e s'/\jl s.h s'.h/\AW P w0 ro (.scope a) (fun e' q=>e'=e/\q=s'.s) s.s:=by
 cases h1:rec (.code ro a s) with
 | none=>rw [h1] at h;cases h
 | some r1=>
  obtain⟨e1,s1,rfl,l1,w1,_⟩:=lI ih h1
  rw [h1] at h
  by_cases hx:∃j,e1= .goto j
  ·obtain⟨j,rfl⟩:=hx
   cases h
  ·have hr:r= .st e1 s1:=by
    cases e1<;>first | exact absurd ⟨_,rfl⟩ hx | (injection h with h;exact h.symm)
   subst hr
   refine⟨e1,s1,rfl,l1,AW.scope (w1.mono ?_)⟩
   rintro e' q ⟨rfl,rfl⟩
   cases e'<;>first | exact absurd ⟨_,rfl⟩ hx | exact⟨rfl,rfl⟩
theorem PT {rec:eP} (ih:Hyp P w0 rec) {ro:Option Nat} {c:Operand} {a b:Code} {s:jw} {r:gQ} (h:Ue rec ro a b s (ev s.t c)=some r):∃e s',r= .st e s'/\jl s.h s'.h/\AW P w0 ro (.cond c a b) (fun e' q=>e'=e/\q=s'.s) s.s:=by
 unfold Ue at h
 split at h
 ·rename_i hv
  obtain⟨e,s',rfl,l1,w1,_⟩:=lI ih h
  exact⟨e,s',rfl,l1,AW.cond hv (fun _=>w1) (fun q=>absurd rfl q)⟩
 ·rename_i hv
  obtain⟨e,s',rfl,l1,w1,_⟩:=lI ih h
  exact⟨e,s',rfl,l1,AW.cond hv (fun q=>absurd rfl q) (fun _=>w1)⟩
 ·cases h
theorem SC {rec:eP} (ih:Hyp P w0 rec) {ro:Option Nat} {ops:Array Oper} {s:jw} {l:List Nat} {r:gQ} (h:Zz rec ro ops s l=some r):Claim P w0 (.ops ro ops l s) r:=by
 have cl:∀{l:List Nat} {s:jw} {r:gQ},rec (.ops ro ops l s)=some r->∃s',r= .st .normal s'/\jl s.h s'.h/\vT P w0 ro ops (fun q=>q=s'.s) l s.s:=by
  intro l s r h
  have:=ih _ _ h
  cases r with
  | st e s'=>obtain⟨rfl,a,b⟩:=this;exact⟨s',rfl,a,b⟩
  | val v h=>exact this.elim
 cases l with
 | nil=>
  injection h with h;subst h
  exact⟨rfl,jl.refl _,rfl⟩
 | cons i l=>
  simp only [Zz] at h
  cases ho:ops[i]? with
  | none=>
   rw [ho] at h
   obtain⟨s',rfl,l1,a1⟩:=cl h
   refine⟨rfl,l1,?_⟩
   simp only [vT,ho]
   exact a1
  | some o=>
   rw [ho] at h
   simp only [XX] at h
   rw [FZ] at h
   cases hw:fG ops s.t o with
   | none=>rw [hw] at h;cases h
   | some b=>
    rw [hw] at h
    cases b with
    | false=>
     simp only [Uh,lY] at h
     obtain⟨s',rfl,l1,a1⟩:=cl h
     refine⟨rfl,l1,?_⟩
     simp only [vT,ho]
     exact⟨fun q=>absurd hw q,fun _=>a1⟩
    | true=>
     simp only [Uh] at h
     cases h1:rec (.op ro o s) with
     | none=>rw [h1] at h;cases h
     | some r1=>
      rw [h1] at h
      cases r1 with
      | st e s1=>cases h
      | val v g=>
       simp only [XW,lY] at h
       obtain⟨s',rfl,l1,a1⟩:=cl h
       obtain⟨l0,a0⟩:=ih _ _ h1
       refine⟨rfl,l0.trans l1,?_⟩
       simp only [vT,ho]
       refine⟨fun _=>(a0 s.t fun _ _=>rfl).mono ?_,fun q=>absurd hw q⟩
       rintro v' g' N ⟨rfl,rfl,rfl⟩
       exact a1
theorem SE {ro:Option Nat} {o:Oper} {s:jw} {r:gQ} (h:ZA s.h (rZ P .run s.t o s.h.get s.h.next)=some r):Claim P w0 (.op ro o s) r:=by
 unfold ZA at h
 split at h
 ·rename_i c v e he
  split at h
  ·rename_i ht
   simp only [Bool.and_eq_true] at ht
   obtain⟨ht,hk⟩:=ht
   rw [KV] at h
   injection h with h;subst h
   obtain⟨h1,h2,h3⟩:=RB s.h e hk
   refine⟨h3,fun t' ht'=>JS.plain (md:= .run) (c:=c) (v:=v) (e:=e) ?_ (zH ht) ⟨rfl,h1.symm,h2.symm⟩⟩
   have:=BU (P:=P) (md:= .run) (t:=s.t) (t':=t') (o:=o) (g:=s.h.get) (nx:=s.h.next) ht'
   simp only
   rw [this];exact he
  ·cases h
 ·cases h
theorem qI:∀{l:List Nat},BO l=true->l.Nodup
 | [],_=>List.nodup_nil
 | a::l,h=>by
  simp only [BO,Bool.and_eq_true,Bool.not_eq_true'] at h
  rw [List.nodup_cons]
  refine⟨fun q=>?_,qI h.2⟩
  rw [gB.2 q] at h
  cases h.1
theorem Ll (h:aj):∀(l:List Nat),(h.eQ l).get=eQ h.get l/\(h.eQ l).next=h.next/\jl h (h.eQ l):=by
 intro l
 induction l generalizing h with
 | nil=>exact⟨rfl,rfl,jl.refl h⟩
 | cons d l ih=>
  obtain⟨h1,h2,h3⟩:=ih (h.del d)
  refine⟨?_,h2,(jl.del h d).trans h3⟩
  show((h.del d).eQ l).get=eQ (Mem.del h.get d) l
  rw [h1,De]
theorem UG {rec:eP} (ih:Hyp P w0 rec) (hG:∀(f:FuncId) (fn:Func) (c:Code),P.funcs[f]?=some fn->fn.body=some c->Goes P f) {f:FuncId} {args:List AV} {h:aj} {r:gQ} (hr:kFn P rec args h P.funcs[f]?=some r):Claim P w0 (.fn f args h) r:=by
 unfold kFn at hr
 split at hr
 ·cases hr
 ·rename_i fn hfn
  unfold kFn2 at hr
  split at hr
  ·cases hr
  ·rename_i c hc
   have key:∀(e:Exit) (s:jw),(e= .normal\/e= .ret)->WC (s.h.eQ s.d) (vk P fn s)=some r->rec (.code none c ⟨args++List.replicate (fn.ntmps - args.length) .un,[],h⟩)=some (.st e s)->Claim P w0 (.fn f args h) r:=by
    intro e s he hres hrec
    obtain⟨l1,w1,_⟩:=ih _ _ hrec
    unfold WC at hres
    split at hres
    ·rename_i v hv
     injection hres with hres;subst hres
     unfold vk at hv
     split at hv
     ·rename_i k vs hvs
      split at hv
      ·rename_i ht
       injection hv with hv;subst hv
       simp only [Bool.and_eq_true] at ht
       obtain⟨⟨ht,hd⟩,hnd⟩:=ht
       obtain⟨d1,d2,d3⟩:=Ll s.h s.d
       refine⟨l1.trans d3,hG f fn c hfn hc,jC.qF hfn hc (w1.mono ?_)⟩
       rintro e' q ⟨rfl,rfl⟩
       refine⟨he,?_,?_,k,vs,hvs,zH ht,rfl,d1.symm,d2.symm⟩
       ·exact qI hnd
       ·intro q hq
        have:=List.all_eq_true.1 hd q hq
        show s.h.get q=some .ng
        revert this
        cases s.h.get q with
        | none=>intro h;cases h
        | some o=>cases o<;>intro h<;>first | rfl | cases h
      ·cases hv
     ·cases hv
    ·cases hres
   unfold kFn3 at hr
   split at hr
   ·rename_i s hs;exact key .normal s (.inl rfl) hr hs
   ·rename_i s hs;exact key .ret s (.inr rfl) hr hs
   ·cases hr
theorem Df {rec:eP} (ih:Hyp P w0 rec) {ro:Option Nat} {o:Oper} {s:jw} {g:Operand} {args:Array Operand} {ts:Array TypeId} {l:Nat} {r:gQ} {t':List AV} {d':List Nat} (ho:o.op= .call {callee:= .value g,args,argTypes:=ts})
  (hg:ev t' g= .fn (.yield l) [] []) (ha:args.toList.map (ev t')=args.toList.map (ev s.t)) (h:PG rec l (args.toList.map (ev s.t)) s.h (s.h.get l)=some r):
  ∃v h',r= .val v h'/\jl s.h h'/\JS P w0 ro o ⟨t',d',s.h.get,s.h.next⟩ fun v' g N=>v'=v/\g=h'.get/\N=h'.next:=by
 unfold PG at h
 split at h
 ·rename_i r0 hl
  split at h
  ·rename_i hn
   cases h1:rec (.code (some l) r0.assign ⟨(r0.params.toList.zip (args.toList.map (ev s.t))).foldl (fun t p=>t.set p.1 p.2) r0.tmps,[],s.h⟩) with
   | none=>rw [h1] at h;cases h
   | some q1=>
    obtain⟨e1,s1,rfl,l1,w1,_⟩:=lI ih h1
    rw [h1] at h
    unfold Rn at h
    split at h
    ·rename_i s1' hq
     injection hq with hq
     injection hq with hq1 hq2
     subst hq1 hq2
     unfold Rm at h
     split at h
     ·rename_i r1 hl1
      split at h
      ·rename_i hst
       have hlt1:=aj.kI hl1
       cases h2:rec (.code (some l) r0.body ⟨s1.t,s1.d,s1.h.set l (.loop {r1 with state:= .busy})⟩) with
       | none=>rw [h2] at h;cases h
       | some q2=>
        obtain⟨e2,s2,rfl,l2,w2,_⟩:=lI ih h2
        rw [h2] at h
        simp only [Rl] at h
        unfold Rk at h
        split at h
        ·rename_i r2 j hl2 hj hd2
         injection h with h;subst h
         have hlt2:=aj.kI hl2
         refine⟨_,_,rfl,((l1.trans (jl.set _ _ hlt1)).trans l2).trans (jl.set _ _ hlt2),?_⟩
         refine JS.yield ho hg hl (by simpa using hn) ?_
         rw [ha]
         refine w1.mono ?_
         rintro e' q ⟨rfl,rfl⟩
         refine⟨rfl,r1,hl1,hst,?_⟩
         have hs:(⟨s1.t,s1.d,s1.h.set l (.loop {r1 with state:= .busy})⟩:jw).s=⟨s1.s.t,s1.s.d,Mem.set s1.s.g l (.loop {r1 with state:= .busy}),s1.s.N⟩:=by
          simp only [jw.s,ny _ _ hlt1,aj.MQ]
         rw [<- hs]
         refine w2.mono ?_
         rintro e' q ⟨rfl,rfl⟩
         refine⟨j,r2,hj,hl2,rfl,?_,rfl⟩
         rw [ny _ _ hlt2]
         rfl
        ·cases h
      ·cases h
     ·cases h
    ·cases h
  ·cases h
 ·cases h
def X7 (P:Program) (w0:World) (O:iY):Prop:=∀f args h v h',O f args h=some (v,h')->jl h h'/\Goes P f/\jC P w0 f args h.get h.next fun v' g N=>v'=v/\g=h'.get/\N=h'.next
theorem UH {rec:eP} (ih:Hyp P w0 rec) {X:List (Nat×XK)} {O:iY} (hX:∀f x,CW X f=some x->C8 P f x) (hO:X7 P w0 O) {ro:Option Nat} {o:Oper} {s:jw} {r:gQ} (h:kOp P X O rec o s o.op=some r):Claim P w0 (.op ro o s) r:=by
 unfold kOp at h
 split at h
 ·rename_i g args ts ho
  have hop:∀t',(∀x∈o.op.operands.toList,ev t' x=ev s.t x)->ev t' g=ev s.t g/\args.toList.map (ev t')=args.toList.map (ev s.t):=by
   intro t' ht
   rw [ho] at ht
   refine⟨ht g (by simp [Op.operands,Call.operands]),List.map_congr_left fun x hx=>ht x ?_⟩
   simp only [Op.operands,Call.operands,Array.toList_append,List.mem_append]
   first | exact .inr hx | exact .inl hx
  unfold XY at h
  split at h
  ·rename_i f fs cs hg
   cases hfx:CW X f with
   | none=>
    rw [hfx] at h
    simp only [Ul] at h
    have:∃v h',r= .val v h'/\jl s.h h'/\Goes P f/\jC P w0 f (fs++args.toList.map (ev s.t)++cs) s.h.get s.h.next fun v' g N=>v'=v/\g=h'.get/\N=h'.next:=by
     unfold kOra at h
     split at h
     ·have:=ih _ _ h
      cases r with
      | st e s'=>exact this.elim
      | val v h'=>exact⟨v,h',rfl,this⟩
     ·rename_i v h' ho'
      injection h with h;subst h
      exact⟨v,h',rfl,hO _ _ _ _ _ ho'⟩
    obtain⟨v,h',rfl,this⟩:=this
    ·obtain⟨l1,hgo,hc⟩:=this
     refine⟨l1,fun t' ht=>?_⟩
     obtain⟨q1,q2⟩:=hop t' ht
     exact JS.call ho (by rw [q1];exact hg) hgo (by rw [q2];exact hc)
   | some x=>
    rw [hfx] at h
    simp only [Ul] at h
    unfold kExt at h
    split at h
    ·rename_i v hv
     injection h with h;subst h
     refine⟨jl.refl _,fun t' ht=>?_⟩
     obtain⟨q1,q2⟩:=hop t' ht
     exact JS.ext ho (by rw [q1];exact hg) (hX f x hfx) (by rw [q2];exact hv) ⟨rfl,rfl,rfl⟩
    ·cases h
  ·rename_i l hg
   have h0:=hop s.t fun _ _=>rfl
   obtain⟨v,h',rfl,l1,_⟩:=Df (ro:=ro) (d':=s.d) ih ho hg rfl h
   refine⟨l1,fun t' ht=>?_⟩
   obtain⟨q1,q2⟩:=hop t' ht
   obtain⟨v2,h2,e2,_,a2⟩:=Df (ro:=ro) (d':=s.d) ih ho (by rw [q1];exact hg) q2 h
   injection e2 with e3 e4
   subst e3 e4
   exact a2
  ·cases h
 ·exact SE h
theorem SF {rec:eP} (ih:Hyp P w0 rec) {ro:Option Nat} {s:jw} {d:List Nat} {l:Nat} {h2:aj} {v:AV} {r:gQ} (h:Zy rec ro s d l (some (.val v h2))=some r):
  ∃e s',r= .st e s'/\jl h2 s'.h/\I1 P w0 ro (fun e' q=>e'=e/\q=s'.s) s.t d l v h2.get h2.next:=by
 simp only [Zy] at h
 split at h
 ·rename_i rr hl
  have hlt:=aj.kI hl
  unfold XU at h
  split at h
  ·cases h
  ·rename_i hb
   have hs:(⟨s.t,d,h2.set l (.loop {rr with state:= .exhausted})⟩:jw).s=⟨s.t,d,Mem.set h2.get l (.loop {rr with state:= .exhausted}),h2.next⟩:=by
    simp only [jw.s,ny _ _ hlt,aj.MQ]
   obtain⟨st,pd,tm,prm,asn,bdy,ng⟩:=rr
   cases pd with
   | none=>
    injection h with h;subst h
    exact⟨_,_,rfl,jl.set _ _ hlt,_,hl,hb,rfl,hs.symm⟩
   | some c=>
    obtain⟨e,s',rfl,l1,w1,_⟩:=lI ih h
    refine⟨e,s',rfl,(jl.set _ _ hlt).trans l1,_,hl,hb,?_⟩
    rw [hs] at w1
    exact w1
 ·cases h
theorem NC {rec:eP} (ih:Hyp P w0 rec) {ro:Option Nat} {g:Operand} {ps:Array Tmp} {assign body:Code} {s:jw} {r:gQ} (h:PD rec ro ps assign body s (ev s.t g)=some r):
  ∃e s',r= .st e s'/\jl s.h s'.h/\AW P w0 ro (.rangeFunc g ps assign body) (fun e' q=>e'=e/\q=s'.s) s.s:=by
 unfold PD at h
 split at h
 ·rename_i f fs cs hg
  unfold Rf at h
  split at h
  ·cases h
  ·rename_i d df h1 he
   cases hr:rec (.fn f (fs++[.fn (.yield h1.next) [] []]++cs) (h1.push (.loop {state:= .ready,pending:=none,tmps:=s.t,params:=ps,assign,body,defers:=df}))) with
   | none=>rw [hr] at h;cases h
   | some q=>
    rw [hr] at h
    have hq:=ih _ _ hr
    cases q with
    | st e s'=>exact hq.elim
    | val v h2=>
     obtain⟨l1,hgo,hc⟩:=hq
     obtain⟨e,s',rfl,l2,hend⟩:=SF ih h
     rw [jE] at hc
     unfold Ug at he
     split at he
     ·injection he with he
      injection he with he1 he
      injection he with he2 he3
      subst he1 he2 he3
      rw [jE] at hc
      refine⟨e,s',rfl,(((jl.push s.h .ng).trans (jl.push _ _)).trans l1).trans l2,AW.zD (s:=s.s) hg hgo (hc.mono ?_)⟩
      rintro v' g' N' ⟨rfl,rfl,rfl⟩
      exact hend
     ·rename_i l0
      split at he
      ·rename_i r0 hl0
       injection he with he
       injection he with he1 he
       injection he with he2 he3
       subst he1 he2 he3
       refine⟨e,s',rfl,((jl.push s.h _).trans l1).trans l2,AW.Rs (s:=s.s) hg hgo hl0 (hc.mono ?_)⟩
       rintro v' g' N' ⟨rfl,rfl,rfl⟩
       exact hend
      ·cases he
 ·cases h
theorem WQ (h h':aj) (hl:jl (Re h) h'):jl h (Py h.lo h'):=⟨hl.next,Nat.min_le_left _ _,fun d hd hn=>by
 have h1:d < h'.lo:=Nat.lt_of_lt_of_le hd (Nat.min_le_right _ _)
 exact hl.get d h1 hn⟩
theorem vF {rec:eP} (ih:Hyp P w0 rec) {ro:Option Nat} {ops:Array Oper} {l:List Nat} {rs:List DR} {s:jw} {r:gQ} (h:rec (.draw ro ops l rs s)=some r):∃s',r= .st .normal s'/\jl s.h s'.h/\∀s0 full,Mid P w0 ro ops s0 rs full s->∃rs' JY,Mid P w0 ro ops s0 rs' JY s'/\∀i o,ops[i]?=some o->∃r∈JY,r.i=i:=by
 have:=ih _ _ h
 cases r with
 | st e s'=>obtain⟨rfl,a,b⟩:=this;exact⟨s',rfl,a,b⟩
 | val v h=>exact this.elim
theorem PU {rec:eP} (ih:Hyp P w0 rec) {ro:Option Nat} {ops:Array Oper} {rs:List DR} {s:jw} {l:List Nat} {r:gQ} (h:Rj P rec ro ops rs s l=some r):Claim P w0 (.draw ro ops l rs s) r:=by
 cases l with
 | nil=>
  simp only [Rj] at h
  split at h
  ·rename_i hall
   injection h with h;subst h
   refine⟨rfl,jl.refl _,fun s0 full hm=>⟨rs,full,hm,fun i o ho=>?_⟩⟩
   have hi:=(Array.getElem?_eq_some_iff.1 ho).1
   have:=List.all_eq_true.1 hall i (by simpa using hi)
   obtain⟨b,hb,hbi⟩:=List.any_eq_true.1 this
   obtain⟨q,hq,hc⟩:=hm.PR.1 b hb
   exact⟨q,hq,by rw [hc.i];exact Nat.eq_of_beq_eq_true hbi⟩
  ·cases h
 | cons i l=>
  simp only [Rj] at h
  cases ho:ops[i]? with
  | none=>rw [ho] at h;cases h
  | some o=>
   rw [ho] at h
   simp only [Uk,Uj] at h
   split at h
   ·rename_i hs
    rw [FZ] at h
    have RD:∀{s0:bY} {full:List Rec},Mid P w0 ro ops s0 rs full s->s.t=(qH s0 full s.h.next).t:=fun hm=>congrArg bY.t hm.st
    have UI:∀{s0:bY} {full:List Rec},Mid P w0 ro ops s0 rs full s->s.h.get=gT s0 full:=fun hm=>congrArg bY.g hm.st
    cases hw:fG ops s.t o with
    | none=>rw [hw] at h;cases h
    | some w=>
     rw [hw] at h
     have hwv:∀{s0:bY} {full:List Rec},Mid P w0 ro ops s0 rs full s->∀r:Rec,r.look=bK (kJ ops o)->fG ops (jk s0 r full) o=some w:=fun hm r hl=>by
      rw [Ny (N:=s.h.next) hl, <- RD hm];exact hw
     cases w with
     | false=>
      simp only [PE,lY] at h
      obtain⟨s',rfl,l1,a1⟩:=vF ih h
      refine⟨rfl,l1,fun s0 full hm=>?_⟩
      obtain⟨q,hq⟩:=sP (v:= .un) (h':=s.h) (old:=some []) (fr:=0) (ch:=false) (dom:=fun _=>false) hm ho hs (Nat.le_refl _) (fun l hl d hd=>by injection hl with hl;subst hl;cases hd) (fun _ _ _=>rfl) (fun _ h=>by cases h) (fun h=>by cases h)
       (fun _=>⟨rfl,fun _ _ _ _ _=>rfl,fun d o hd ho=>by have:=aj.kI ho;omega⟩) (fun r _ hl hv _ hlo hhi hch _=> .inl ⟨hwv hm r hl,hv,hch,by rw [hlo,hhi]⟩)
      exact a1 s0 _ hq
     | true=>
      simp only [PE] at h
      split at h
      ·split at h
       ·rename_i hall
        have X8:∀b∈rs,bK (kP rs o) b.i=true:=fun b hb=>List.all_eq_true.1 hall b hb
        split at h
        ·
         cases hr:rec (.op ro o ⟨s.t,s.d,Re s.h⟩) with
         | none=>rw [hr] at h;cases h
         | some q=>
          rw [hr] at h
          cases q with
          | st e s1=>cases h
          | val v g=>
           simp only [JF,lY] at h
           obtain⟨s',rfl,l1,a1⟩:=vF ih h
           obtain⟨l0,a0⟩:=ih _ _ hr
           refine⟨rfl,(WQ _ _ l0).trans l1,fun s0 full hm=>?_⟩
           obtain⟨q,hq⟩:=sP (v:=v) (h':=Py s.h.lo g) (old:=if Nat.blt g.lo s.h.next then none else some []) (fr:=g.lo) (ch:=true) (dom:=fun d=>Nat.blt d s.h.next) hm ho hs l0.next (fun l hl d hd=>by
             split at hl
             ·cases hl
             ·injection hl with hl;subst hl;cases hd) (fun d hd hold=>by
             split at hold
             ·simp only [Nz] at hold
              have e1:Nat.blt d s.h.next=true:=by simpa [Nat.blt_eq] using hd
              rw [e1,Bool.and_true] at hold
              have e2:d < g.lo:=Nat.lt_of_not_le fun q=>by rw [Nat.ble_eq_true_of_le q] at hold;cases hold
              exact l0.get d e2 hd
             ·rename_i hlo
              have PN:s.h.next<=g.lo:=by
               apply Nat.le_of_not_lt
               intro q
               exact hlo (by simpa [Nat.blt_eq] using q)
              exact l0.get d (Nat.lt_of_lt_of_le hd PN) hd) (fun d hd=>by simpa [Nat.blt_eq] using hd) (fun _=>⟨fun d hd=>by simpa [Nat.blt_eq] using hd,X8⟩) (fun h=>by cases h)
            (fun r _ hl hv hg hlo hhi hch _=> .inr (.inl ⟨hwv hm r hl,hch,by
             have:=a0 (jk s0 r full) (fun x hx=>by rw [Lj (N:=s.h.next) hl x hx, <- RD hm])
             have e1:(Re s.h).get=gT s0 full:=UI hm
             have e2:s.d=s0.d:=congrArg bY.d hm.st
             rw [hlo,hv,hg,hhi]
             simp only at this
             rw [e1,e2] at this
             exact this⟩))
           exact a1 s0 _ hq
        ·
         unfold MU at h
         split at h
         ·rename_i c v e he
          split at h
          ·rename_i ht
           simp only [Bool.and_eq_true] at ht
           obtain⟨ht,hfit⟩:=ht
           rw [KV] at h
           simp only [lY] at h
           obtain⟨m1,m2,m3⟩:=RB s.h e hfit
           obtain⟨s',rfl,l1,a1⟩:=vF ih h
           refine⟨rfl,m3.trans l1,fun s0 full hm=>?_⟩
           obtain⟨q,hq⟩:=sP (v:=v) (h':=e.app s.h) (old:=some e.old) (fr:=0) (ch:=true) (dom:=fun d=>Nat.blt d s.h.next) hm ho hs m3.next (fun l hl d hd=>by
             injection hl with hl;subst hl
             cases e<;>simp [Ef.old] at hd<;>(subst hd;simpa [Ef.fits,Nat.blt_eq] using hfit)) (fun d hd hold=>by
             simp only [Nz] at hold
             have hnd:d∉e.old:=fun q=>by rw [gB.2 q] at hold;cases hold
             rw [m1]
             cases e with
             | none=>rfl
             | push o=>simp only [Ef.mem,Mem.push];rw [if_neg (by omega)]
             | set d' o=>
              have:d≠d':=fun q=>hnd (by simp [Ef.old,q])
              simp only [Ef.mem,Mem.set];rw [if_neg this]
             | move d' o=>
              have:d≠d':=fun q=>hnd (by simp [Ef.old,q])
              simp only [Ef.mem,Mem.push,Mem.del];rw [if_neg (by omega),if_neg this]) (fun d hd=>by simpa [Nat.blt_eq] using hd) (fun _=>⟨fun d hd=>by simpa [Nat.blt_eq] using hd,X8⟩) (fun h=>by cases h)
            (fun r _ hl hv hg hlo hhi hch _=> .inr (.inl ⟨hwv hm r hl,hch,by
             have e1:s.h.get=gT s0 full:=UI hm
             have hcg:=BU (P:=P) (md:= .run) (t:=s.t) (t':=jk s0 r full) (o:=o) (g:=s.h.get) (nx:=s.h.next) (fun x hx=>by rw [Lj (N:=s.h.next) hl x hx, <- RD hm])
             rw [hlo,hv,hg,hhi]
             refine JS.plain (md:= .run) (c:=c) (v:=v) (e:=e) ?_ (zH ht) ⟨rfl,?_,m2.symm⟩
             ·simp only
              rw [<- e1,hcg];exact he
             ·simp only
              rw [<- e1];exact m1.symm⟩))
           exact a1 s0 _ hq
          ·cases h
         ·cases h
       ·cases h
      ·
       generalize hdom:(if looks o.op then o.op.operands.toList.flatMap fun x=>(ev s.t x).top else [])=dom at h
       unfold Ui at h
       split at h
       ·rename_i hfree
        have hfr:∀b∈rs,bK (kP rs o) b.i=false->∀d,b.wrote d=true->(bK dom d&&Nat.blt d s.h.next)=false:=fun b hb hu d hd=>by
         have:=List.all_eq_true.1 hfree b hb
         simp only [Bool.or_eq_true,List.all_eq_true,Bool.not_eq_true'] at this
         rcases this with h1 | h1
         ·rw [hu] at h1;cases h1
         ·cases hq:bK dom d with
          | false=>rfl
          | true=>have:=h1 d (gB.1 hq);rw [hd] at this;cases this
        have hgv:∀{s0:bY} {full:List Rec} (r:Rec),Mid P w0 ro ops s0 rs full s->r.lo=s.h.next->r.dom=(fun d=>bK dom d&&Nat.blt d s.h.next)->∀d o,restrict dom s.h.get d=some o->d < r.lo/\r.dom d=true/\gT s0 full d=some o:=by
         intro s0 full r hm hlo hdm d o hd
         unfold restrict at hd
         split at hd
         ·rename_i hq
          have hlt:=aj.kI hd
          refine⟨by rw [hlo];exact hlt,?_,by rw [<- UI hm];exact hd⟩
          rw [hdm]
          simp [hq,Nat.blt_eq,hlt]
         ·cases hd
        have hdl:∀d,(bK dom d&&Nat.blt d s.h.next)=true->d < s.h.next:=fun d hd=>by
         simp only [Bool.and_eq_true,Nat.blt_eq] at hd;exact hd.2
        have hcg:∀{s0:bY} {full:List Rec} (r:Rec),Mid P w0 ro ops s0 rs full s->r.look=bK (kJ ops o)->rZ P .run (jk s0 r full) o (restrict dom s.h.get) s.h.next=rZ P .run s.t o (restrict dom s.h.get) s.h.next:=fun r hm hl=>
         BU (fun x hx=>by rw [Lj (N:=s.h.next) hl x hx, <- RD hm])
        unfold Ri at h
        split at h
        ·rename_i c v he
         split at h
         ·rename_i ht
          simp only [lY] at h
          obtain⟨s',rfl,l1,a1⟩:=vF ih h
          refine⟨rfl,l1,fun s0 full hm=>?_⟩
          obtain⟨q,hq⟩:=sP (v:=v) (h':=s.h) (old:=some []) (fr:=0) (ch:=false) (dom:=fun d=>bK dom d&&Nat.blt d s.h.next) hm ho hs (Nat.le_refl _) (fun l hl d hd=>by injection hl with hl;subst hl;cases hd) (fun _ _ _=>rfl) hdl (fun h=>by cases h)
           (fun _=>⟨rfl,hfr,fun d o hd ho=>by have:=aj.kI ho;omega⟩) (fun r _ hl hv hg hlo hhi hch hdm=> .inr (.inr ⟨hwv hm r hl,hch, .run,restrict dom s.h.get,c, .none,hgv r hm hlo hdm,by rw [hlo,hv,hcg r hm hl];exact he,zH ht, .inl ⟨rfl,by rw [hlo,hhi]⟩⟩))
          exact a1 s0 _ hq
         ·cases h
        ·rename_i c v ac he
         split at h
         ·rename_i ht
          rw [KV] at h
          simp only [lY] at h
          obtain⟨s',rfl,l1,a1⟩:=vF ih h
          refine⟨rfl,(jl.push _ _).trans l1,fun s0 full hm=>?_⟩
          obtain⟨q,hq⟩:=sP (v:=v) (h':=s.h.push (.cells ac false)) (old:=some []) (fr:=0) (ch:=false) (dom:=fun d=>bK dom d&&Nat.blt d s.h.next) hm ho hs (by simp) (fun l hl d hd=>by injection hl with hl;subst hl;cases hd) (fun d hd _=>by rw [aj.oG,if_neg (by omega)]) hdl (fun h=>by cases h)
           (fun _=>⟨rfl,hfr,fun d o hd ho=>by
            have h1:=aj.kI ho
            simp at h1
            have h2:d=s.h.next:=by omega
            rw [aj.oG,if_pos h2] at ho
            injection ho with ho;subst ho;rfl⟩) (fun r _ hl hv hg hlo hhi hch hdm=> .inr (.inr ⟨hwv hm r hl,hch, .run,restrict dom s.h.get,c, .push (.cells ac false),hgv r hm hlo hdm,by rw [hlo,hv,hcg r hm hl];exact he,zH ht, .inr ⟨ac,rfl,by rw [hlo,hhi];rfl,by rw [hg,hlo];exact aj.KR _ _⟩⟩))
          exact a1 s0 _ hq
         ·cases h
        ·cases h
       ·cases h
   ·cases h
theorem SG {ro:Option Nat} {ops:Array Oper} (s:jw):Mid P w0 ro ops s.s [] [] s:=by
 refine⟨PC.nil,⟨fun _ h=>(by cases h),fun _ h=>(by cases h)⟩,?_,fun _ h=>(by cases h),Nat.le_refl _⟩
 have e1:(List.range s.t.length).map (fun x=>(tF (f0 s.s) ou [] x).1)=s.t:=by
  refine List.ext_getElem? fun x=>?_
  by_cases hx:x < s.t.length
  ·simp [tF,f0,jw.s,dR,hx]
  ·simp [hx]
 show s.s=⟨(List.range s.t.length).map (fun x=>(tF (f0 s.s) ou [] x).1),s.d,gT s.s [],s.h.next⟩
 rw [e1]
 rfl
theorem Lm {rec:eP} (ih:Hyp P w0 rec) (hm:P.follows .mixedOrders=true) {ro:Option Nat} {ops:Array Oper} {id:Nat} {d:Bool} {s:jw} {r:gQ} (h:Rh rec ro ops s d=some r):
  ∃e s',r= .st e s'/\jl s.h s'.h/\AW P w0 ro (.region id ops d) (fun e' q=>e'=e/\q=s'.s) s.s:=by
 cases d with
 | false=>
  have hc:=ih _ _ h
  cases r with
  | val v h=>exact hc.elim
  | st e s'=>
   obtain⟨rfl,l1,a1⟩:=hc
   refine⟨_,s',rfl,l1,AW.region ?_⟩
   have:(fun q=>q=s'.s)=(fun q=>(Exit.normal=Exit.normal/\q=s'.s)):=by funext q;simp
   rw [this] at a1
   exact a1
 | true=>
  obtain⟨s',rfl,l1,a1⟩:=vF ih h
  obtain⟨rs',JY,hmid,hall⟩:=a1 s.s [] (SG s)
  refine⟨_,s',rfl,l1,AW.draw (N:=s'.h.next) hm (hmid.pc.cert hall) hmid.hi hmid.n0 (fun r hr=>?_) ⟨rfl,hmid.st.symm⟩⟩
  obtain⟨l,e,hf⟩:=List.append_of_mem hr
  exact(hmid.pc.ok l r e hf).lo
theorem J2 {X:List (Nat×XK)} {O:iY} (hX:∀f x,CW X f=some x->C8 P f x) (hO:X7 P w0 O) (hG:∀(f:FuncId) (fn:Func) (c:Code),P.funcs[f]?=some fn->fn.body=some c->Goes P f) (hm:P.follows .mixedOrders=true):∀n,Hyp P w0 (run P X O n)
 | 0=>fun t r h=>by cases h
 | n+1=>fun t r h=>by
  have ih:=J2 hX hO hG hm n
  have h':XZ P X O (run P X O n) t=some r:=h
  cases t with
  | code ro c s=>
   have wrap:(∃e s',r= .st e s'/\jl s.h s'.h/\AW P w0 ro c (fun e' q=>e'=e/\q=s'.s) s.s)->(∀x,c≠ .loop x)->Claim P w0 (.code ro c s) r:=by
    rintro⟨e,s',rfl,l1,w1⟩ hn
    exact⟨l1,w1,fun x hx=>absurd hx (hn x)⟩
   have h2:XV (run P X O n) ro s c=some r:=h'
   cases c with
   | skip=>injection h2 with h2;subst h2;exact wrap ⟨_,s,rfl,jl.refl _,AW.skip ⟨rfl,rfl⟩⟩ (fun _ h=>by cases h)
   | label i=>injection h2 with h2;subst h2;exact wrap ⟨_,s,rfl,jl.refl _,AW.label ⟨rfl,rfl⟩⟩ (fun _ h=>by cases h)
   | ret=>injection h2 with h2;subst h2;exact wrap ⟨_,s,rfl,jl.refl _,AW.ret ⟨rfl,rfl⟩⟩ (fun _ h=>by cases h)
   | exit i=>injection h2 with h2;subst h2;exact wrap ⟨_,s,rfl,jl.refl _,AW.exit ⟨rfl,rfl⟩⟩ (fun _ h=>by cases h)
   | goto i=>injection h2 with h2;subst h2;exact wrap ⟨_,s,rfl,jl.refl _,AW.goto ⟨rfl,rfl⟩⟩ (fun _ h=>by cases h)
   | seq a b=>
    obtain⟨e,s',h3,l1,w1,_⟩:=JZ ih h2
    exact wrap ⟨e,s',h3,l1,w1⟩ (fun _ h=>by cases h)
   | cond c a b=>exact wrap (PT ih h2) (fun _ h=>by cases h)
   | block i a=>exact wrap (NA ih h2) (fun _ h=>by cases h)
   | scope a=>exact wrap (NB ih h2) (fun _ h=>by cases h)
   | region id ops d=>exact wrap (Lm ih hm h2) (fun _ h=>by cases h)
   | rangeFunc g ps asn bdy=>exact wrap (NC ih h2) (fun _ h=>by cases h)
   | refuse w=>cases h2
   | loop a=>
    obtain⟨e,s',rfl,l1,_,w2⟩:=JZ ih h2
    have w3:=w2 rfl
    exact⟨l1,w3.aw,fun x hx=>by injection hx with hx;subst hx;exact w3⟩
  | ops ro ops l s=>exact SC ih h'
  | draw ro ops l rs s=>exact PU ih h'
  | op ro o s=>exact UH ih hX hO h'
  | fn f args h0=>exact UG ih hG h'
end
end Go.AM
namespace Go.AM
open Go Go.RowKit
def RF:Option Nat->Option Nat->Bool
 | none,none=>true
 | some a,some b=>Nat.beq a b
 | _,_=>false
theorem ND {a b:Option Nat} (h:RF a b=true):a=b:=by
 unfold RF at h
 split at h
 ·rfl
 ·rw [Nat.eq_of_beq_eq_true h]
 ·cases h
def RG:Option (Nat×Nat)->Option (Nat×Nat)->Bool
 | none,none=>true
 | some (a,b),some (c,d)=>Nat.beq a c&&Nat.beq b d
 | _,_=>false
theorem NF {a b:Option (Nat×Nat)} (h:RG a b=true):a=b:=by
 unfold RG at h
 split at h
 ·rfl
 ·simp only [Bool.and_eq_true] at h
  rw [Nat.eq_of_beq_eq_true h.1,Nat.eq_of_beq_eq_true h.2]
 ·cases h
mutual
def AV.same:AV->AV->Bool
 | .b x, .b y=>decide (x=y)
 | .i k x, .i k' y=>decide (k=k')&&decide (x=y)
 | .f x, .f y=>decide (x=y)
 | .p x, .p y=>RG x y
 | .s a n c e, .s a' n' c' e'=>RG a a'&&Nat.beq n n'&&RF c c'&&Nat.beq e e'
 | .m x, .m y=>RF x y
 | .bD, .bD=>true
 | .bg, .bg=>true
 | .fn (.func f) fs cs, .fn (.func f') fs' cs'=>Nat.beq f f'&&zI fs fs'&&zI cs cs'
 | .agg cs, .agg ds=>zI cs ds
 | .aF cs, .aF ds=>zI cs ds
 | _,_=>false
def zI:List AV->List AV->Bool
 | [],[]=>true
 | a::ae,b::bs=>AV.same a b&&zI ae bs
 | _,_=>false
end
mutual
theorem AV.same_eq:∀(a b:AV),AV.same a b=true->a=b:=by
 intro a b h
 unfold AV.same at h
 split at h
 ·simpa using h
 ·simp only [Bool.and_eq_true,decide_eq_true_eq] at h;rw [h.1,h.2]
 ·simpa using h
 ·rw [NF h]
 ·simp only [Bool.and_eq_true] at h
  rw [NF h.1.1.1,Nat.eq_of_beq_eq_true h.1.1.2,ND h.1.2,Nat.eq_of_beq_eq_true h.2]
 ·rw [ND h]
 ·rfl
 ·rfl
 ·simp only [Bool.and_eq_true] at h
  rw [Nat.eq_of_beq_eq_true h.1.1,l8 _ _ h.1.2,l8 _ _ h.2]
 ·rw [l8 _ _ h]
 ·rw [l8 _ _ h]
 ·cases h
theorem l8:∀(a b:List AV),zI a b=true->a=b:=by
 intro a b h
 unfold zI at h
 split at h
 ·rfl
 ·simp only [Bool.and_eq_true] at h
  rw [AV.same_eq _ _ h.1,l8 _ _ h.2]
 ·cases h
end
def RH:List (AV×AV)->List (AV×AV)->Bool
 | [],[]=>true
 | (a,b)::r,(c,d)::s=>AV.same a c&&AV.same b d&&RH r s
 | _,_=>false
theorem NG:∀(a b:List (AV×AV)),RH a b=true->a=b:=by
 intro a b h
 unfold RH at h
 split at h
 ·rfl
 ·simp only [Bool.and_eq_true] at h
  rw [AV.same_eq _ _ h.1.1,AV.same_eq _ _ h.1.2,NG _ _ h.2]
 ·cases h
def ax.same:ax->ax->Bool
 | .cells (.l cs) r, .cells (.l ds) q=>(r==q)&&zI cs ds
 | .cells (.u v n) r, .cells (.u u m) q=>(r==q)&&Nat.beq n m&&AV.same v u
 | .map a, .map b=>RH a b
 | .ng, .ng=>true
 | _,_=>false
theorem ax.same_eq {a b:ax} (h:ax.same a b=true):a=b:=by
 unfold ax.same at h
 split at h
 ·simp only [Bool.and_eq_true,beq_iff_eq] at h;rw [h.1,l8 _ _ h.2]
 ·simp only [Bool.and_eq_true,beq_iff_eq] at h;rw [h.1.1,Nat.eq_of_beq_eq_true h.1.2,AV.same_eq _ _ h.2]
 ·rw [NG _ _ h]
 ·rfl
 ·cases h
def holds (o:Option ax) (x:ax):Bool:=match o with
 | some y=>ax.same y x
 | none=>false
theorem NH {o:Option ax} {x:ax} (h:holds o x=true):o=some x:=by
 cases o with
 | none=>cases h
 | some y=>rw [ax.same_eq h]
def layAll:List (Nat×Option ax)->Tr->Tr
 | [],t=>t
 | (d,o)::r,t=>layAll r (Tr.put o (d+1) d t)
def said:List (Nat×Option ax)->Nat->Option (Option ax)
 | [],_=>none
 | (d,o)::r,e=>match said r e with
  | some x=>some x
  | none=>if e=d then some o else none
theorem l9:∀(l:List (Nat×Option ax)) (t:Tr) (d:Nat),(layAll l t).get d=match said l d with | some x=>x | none=>t.get d
 | [],t,d=>rfl
 | (c,o)::r,t,d=>by
  rw [layAll,l9 r]
  simp only [said]
  split
  ·rename_i x hx;simp [hx]
  ·rename_i hx
   rw [Tr.get_put _ _ _ _ _ (by omega)]
   by_cases e:d=c
   ·simp [e]
   ·simp [e]
theorem oO:∀{l:List (Nat×Option ax)} {d:Nat} {x:Option ax},said l d=some x->(d,x)∈l
 | [],d,x,h=>by cases h
 | (c,o)::r,d,x,h=>by
  simp only [said] at h
  split at h
  ·rename_i y hy
   injection h with h;subst h
   exact List.mem_cons_of_mem _ (oO hy)
  ·split at h
   ·rename_i e;injection h with h;subst e h;exact List.mem_cons_self ..
   ·cases h
noncomputable def oP:List Nat->Nat->Option Nat
 | [],_=>none
 | a::l,d=>Bool.rec ((oP l d).map (·+1)) (some 0) (Nat.beq a d)
theorem sQ:∀{l:List Nat} {d i:Nat},oP l d=some i->l[i]?=some d
 | [],d,i,h=>by cases h
 | a::l,d,i,h=>by
  have h':(Bool.rec ((oP l d).map (·+1)) (some 0) (Nat.beq a d):Option Nat)=some i:=h
  cases e:Nat.beq a d with
  | true=>
   rw [e] at h'
   injection h' with h'
   subst h'
   rw [Nat.eq_of_beq_eq_true e]
   rfl
  | false=>
   rw [e] at h'
   cases q:oP l d with
   | none=>rw [q] at h';cases h'
   | some j=>
    rw [q] at h'
    injection h' with h'
    subst h'
    simpa using sQ q
mutual
def AV.ren (ρ:Nat->Option Nat):AV->Option AV
 | .p (some (d,o))=>(ρ d).map fun e=> .p (some (e,o))
 | .s (some (d,o)) n c e=>(ρ d).map fun q=> .s (some (q,o)) n c e
 | .m (some d)=>(ρ d).map fun e=> .m (some e)
 | .fn (.func f) fs cs=>match oQ ρ fs,oQ ρ cs with
  | some fs,some cs=>some (.fn (.func f) fs cs)
  | _,_=>none
 | .fn _ _ _=>none
 | .agg cs=>(oQ ρ cs).map .agg
 | .aF cs=>(oQ ρ cs).map .aF
 | a=>some a
def oQ (ρ:Nat->Option Nat):List AV->Option (List AV)
 | []=>some []
 | a::ae=>match AV.ren ρ a,oQ ρ ae with
  | some b,some bs=>some (b::bs)
  | _,_=>none
end
def vG (σ:aZ) (N:Nat) (ρ:Nat->Option Nat) (σ':aZ) (N':Nat):Prop:=∀d e,ρ d=some e->d < N->e < N'/\σ'.at_ e=σ.at_ d/\σ'.sz e=σ.sz d
mutual
theorem af.ren {σ σ':aZ} {N N':Nat} {ρ:Nat->Option Nat} (h:vG σ N ρ σ' N'):∀(a b:AV) (v:Value),AV.ren ρ a=some b->af σ N a v->af σ' N' b v
 | .b none,b,v,hb,r=>by simp only [AV.ren,Option.some.injEq] at hb;subst hb;simpa [af] using r
 | .b (some x),b,v,hb,r=>by simp only [AV.ren,Option.some.injEq] at hb;subst hb;simpa [af] using r
 | .i k none,b,v,hb,r=>by simp only [AV.ren,Option.some.injEq] at hb;subst hb;simpa [af] using r
 | .i k (some n),b,v,hb,r=>by simp only [AV.ren,Option.some.injEq] at hb;subst hb;simpa [af] using r
 | .f .top,b,v,hb,r=>by simp only [AV.ren,Option.some.injEq] at hb;subst hb;simpa [af] using r
 | .f .zr,b,v,hb,r=>by simp only [AV.ren,Option.some.injEq] at hb;subst hb;simpa [af] using r
 | .f (.k x),b,v,hb,r=>by simp only [AV.ren,Option.some.injEq] at hb;subst hb;simpa [af] using r
 | .p none,b,v,hb,r=>by simp only [AV.ren,Option.some.injEq] at hb;subst hb;simpa [af] using r
 | .p (some (d,o)),b,v,hb,r=>by
  simp only [AV.ren,Option.map_eq_some_iff] at hb
  obtain⟨e,he,rfl⟩:=hb
  simp only [af] at r ⊢
  obtain⟨q1,q2,_⟩:=h d e he r.1
  exact⟨q1,by rw [q2];exact r.2⟩
 | .s none n c e,b,v,hb,r=>by simp only [AV.ren,Option.some.injEq] at hb;subst hb;simpa [af] using r
 | .s (some (d,o)) n c e,b,v,hb,r=>by
  simp only [AV.ren,Option.map_eq_some_iff] at hb
  obtain⟨q,he,rfl⟩:=hb
  simp only [af] at r ⊢
  obtain⟨q1,q2,q3⟩:=h d q he r.1
  exact⟨q1,by rw [q2,q3];exact r.2⟩
 | .m none,b,v,hb,r=>by simp only [AV.ren,Option.some.injEq] at hb;subst hb;simpa [af] using r
 | .m (some d),b,v,hb,r=>by
  simp only [AV.ren,Option.map_eq_some_iff] at hb
  obtain⟨e,he,rfl⟩:=hb
  simp only [af] at r ⊢
  obtain⟨q1,q2,_⟩:=h d e he r.1
  exact⟨q1,by rw [q2];exact r.2⟩
 | .fn (.func f) fs cs,b,v,hb,r=>by
  simp only [AV.ren] at hb
  split at hb
  ·rename_i fs' cs' h1 h2
   injection hb with hb;subst hb
   simp only [af] at r ⊢
   obtain⟨_,vs,us,e,q1,q2⟩:=r
   exact⟨trivial,vs,us,e,ai.ren h _ _ _ h1 q1,ai.ren h _ _ _ h2 q2⟩
  ·cases hb
 | .fn (.yield l) fs cs,b,v,hb,r=>by simp [AV.ren] at hb
 | .bD,b,v,hb,r=>by simp only [AV.ren,Option.some.injEq] at hb;subst hb;simpa [af] using r
 | .agg cs,b,v,hb,r=>by
  simp only [AV.ren,Option.map_eq_some_iff] at hb
  obtain⟨ds,hd,rfl⟩:=hb
  simp only [af] at r ⊢
  obtain⟨vs,e,q⟩:=r
  exact⟨vs,e,ai.ren h _ _ _ hd q⟩
 | .aF cs,b,v,hb,r=>by
  simp only [AV.ren,Option.map_eq_some_iff] at hb
  obtain⟨ds,hd,rfl⟩:=hb
  simp only [af] at r ⊢
  obtain⟨vs,e,q⟩:=r
  exact⟨vs,e,ai.ren h _ _ _ hd q⟩
 | .bg,b,v,hb,r=>by simp only [AV.ren,Option.some.injEq] at hb;subst hb;simp only [af]
theorem ai.ren {σ σ':aZ} {N N':Nat} {ρ:Nat->Option Nat} (h:vG σ N ρ σ' N'):∀(ae bs:List AV) (vs:List Value),oQ ρ ae=some bs->ai σ N ae vs->ai σ' N' bs vs
 | [],bs,vs,hb,r=>by simp only [oQ,Option.some.injEq] at hb;subst hb;simpa [ai] using r
 | a::ae,bs,vs,hb,r=>by
  unfold oQ at hb
  split at hb
  ·rename_i b bs' h1 h2
   injection hb with hb;subst hb
   simp only [ai] at r ⊢
   obtain⟨v,q,e,r1,r2⟩:=r
   exact⟨v,q,e,af.ren h a b v h1 r1,ai.ren h ae bs' q h2 r2⟩
  ·cases hb
end
theorem NI {ρ:Nat->Option Nat}:∀{ae bs:List AV},oQ ρ ae=some bs->ae.length=bs.length/\∀(i:Nat) (b:AV),bs[i]?=some b->∃a,ae[i]?=some a/\AV.ren ρ a=some b
 | [],bs,h=>by simp only [oQ,Option.some.injEq] at h;subst h;exact⟨rfl,fun i b h=>by simp at h⟩
 | a::ae,bs,h=>by
  unfold oQ at h
  split at h
  ·rename_i b bs' h1 h2
   injection h with h;subst h
   obtain⟨q1,q2⟩:=NI h2
   refine⟨by simp [q1],fun i c hc=>?_⟩
   cases i with
   | zero=>simp at hc;subst hc;exact⟨a,rfl,h1⟩
   | succ i=>simpa using q2 i c (by simpa using hc)
  ·cases h
def I4 (ρ:Nat->Option Nat):List (AV×AV)->Option (List (AV×AV))
 | []=>some []
 | (k,v)::r=>match AV.ren ρ k,AV.ren ρ v,I4 ρ r with
  | some k,some v,some r=>some ((k,v)::r)
  | _,_,_=>none
theorem kg.ren {σ σ':aZ} {N N':Nat} {ρ:Nat->Option Nat} (h:vG σ N ρ σ' N'):∀{ae bs:List (AV×AV)} {es:List MapEntry},I4 ρ ae=some bs->kg σ N ae es->kg σ' N' bs es
 | [],bs,es,hb,r=>by simp only [I4,Option.some.injEq] at hb;subst hb;exact r
 | (k,v)::ae,bs,es,hb,r=>by
  unfold I4 at hb
  split at hb
  ·rename_i k' v' r' h1 h2 h3
   injection hb with hb;subst hb
   obtain⟨e,q,h0,q1,q2,q3⟩:=r
   exact⟨e,q,h0,af.ren h _ _ _ h1 q1,af.ren h _ _ _ h2 q2,kg.ren h h3 q3⟩
  ·cases hb
def ax.ren (ρ:Nat->Option Nat):ax->Option ax
 | .cells (.l cs) ro=>(oQ ρ cs).map fun ds=> .cells (.l ds) ro
 | .cells (.u v n) ro=>(AV.ren ρ v).map fun u=> .cells (.u u n) ro
 | .map es=>(I4 ρ es).map .map
 | .ng=>some .ng
 | _=>none
theorem oo.ren {σ σ':aZ} {N N':Nat} {ρ:Nat->Option Nat} (h:vG σ N ρ σ' N') {n:Nat} {a b:ax} {O:Obj} (hb:ax.ren ρ a=some b) (r:oo σ N n a O):oo σ' N' n b O/\b.ro=a.ro:=by
 unfold ax.ren at hb
 split at hb
 ·simp only [Option.map_eq_some_iff] at hb
  obtain⟨ds,hd,rfl⟩:=hb
  obtain⟨C,e,fz,h0,h1,h2,h3,h4⟩:=r
  obtain⟨q1,q2⟩:=NI hd
  refine⟨⟨C,e,fz,h0,h1,by simp only [AC.size] at h2 ⊢;omega,h3,fun i a ha=>?_⟩,rfl⟩
  obtain⟨x,hx,hr⟩:=q2 i a ha
  obtain⟨v,hv,TN⟩:=h4 i x hx
  exact⟨v,hv,af.ren h _ _ _ hr TN⟩
 ·rename_i v m ro
  simp only [Option.map_eq_some_iff] at hb
  obtain⟨u,hu,rfl⟩:=hb
  obtain⟨C,e,fz,h0,h1,h2,h3,h4⟩:=r
  refine⟨⟨C,e,fz,h0,h1,h2,h3,fun i a ha=>?_⟩,rfl⟩
  simp only [AC.get?] at ha
  split at ha
  ·rename_i hi
   injection ha with ha;subst ha
   obtain⟨x,hx,hrx⟩:=h4 i v (by simp [AC.get?,hi])
   exact⟨x,hx,af.ren h _ _ _ hu hrx⟩
  ·cases ha
 ·simp only [Option.map_eq_some_iff] at hb
  obtain⟨es,he,rfl⟩:=hb
  obtain⟨E,c,h0,h1⟩:=r
  exact⟨⟨E,c,h0,kg.ren h he h1⟩,rfl⟩
 ·injection hb with hb;subst hb
  exact⟨r,rfl⟩
 ·cases hb
mutual
def AV.nums:AV->List Nat
 | .p (some (d,_))=>[d]
 | .s (some (d,_)) _ _ _=>[d]
 | .m (some d)=>[d]
 | .fn _ fs cs=>numsL fs++numsL cs
 | .agg cs=>numsL cs
 | .aF cs=>numsL cs
 | _=>[]
def numsL:List AV->List Nat
 | []=>[]
 | a::ae=>AV.nums a++numsL ae
end
def ax.nums:ax->List Nat
 | .cells (.l cs) _=>numsL cs
 | .cells (.u v _) _=>AV.nums v
 | .map es=>es.flatMap fun e=>AV.nums e.1++AV.nums e.2
 | _=>[]
noncomputable def F3:List Nat->List Nat->List Nat
 | l,[]=>l
 | l,d::r=>Bool.rec (F3 (l++[d]) r) (F3 l r) (bK l d)
noncomputable def canon (h:aj):Nat->Nat->List Nat->List Nat
 | 0,_,l=>l
 | f+1,i,l=>match l[i]? with
  | none=>l
  | some d=>canon h f (i+1) (F3 l (match h.get d with | some o=>o.nums | none=>[]))
noncomputable def Fb {β:Type} (l:List Nat):(List Nat->β)->β:=List.rec (fun k=>k []) (fun a _ ih k=>dB a fun a=>ih fun r=>k (a::r)) l
theorem F4 {β:Type}:∀(l:List Nat) (k:List Nat->β),Fb l k=k l
 | [],k=>rfl
 | a::l,k=>by
  show dB a (fun a=>Fb l fun r=>k (a::r))=_
  rw [gJ,F4 l]
structure Piece where
 f:FuncId
 args:List AV
 ins:List (Option ax)
 v:AV
 X9:List (Nat×Option ax)
 news:List (Nat×Option ax)
def memT:List (Option ax)->Nat->List (Nat×Option ax)
 | [],_=>[]
 | o::r,i=>(i,o)::memT r (i+1)
theorem F5:∀{l:List (Option ax)} {i d:Nat} {o:Option ax},(d,o)∈memT l i->i<=d/\l[d - i]?=some o
 | [],i,d,o,h=>by cases h
 | a::l,i,d,o,h=>by
  simp only [memT,List.mem_cons,Prod.mk.injEq] at h
  rcases h with⟨rfl,rfl⟩ | h
  ·simp
  ·obtain⟨h1,h2⟩:=F5 h
   refine⟨by omega,?_⟩
   have:d - i=(d - (i+1))+1:=by omega
   rw [this]
   simpa using h2
def Piece.mem (p:Piece):aj:=⟨layAll (memT p.ins 0) .nil,p.ins.length,p.ins.length⟩
theorem Piece.zJ {p:Piece} {d:Nat} {o:ax} (h:p.mem.get d=some o):d < p.ins.length/\p.ins[d]?=some (some o):=by
 have h0:=aj.kI h
 unfold aj.get at h
 rw [if_pos h0,Piece.mem,l9] at h
 split at h
 ·rename_i x hx
  subst h
  obtain⟨_,h2⟩:=F5 (oO hx)
  exact⟨h0,by simpa using h2⟩
 ·cases h
def Piece.says (p:Piece) (d:Nat) (o:ax):Prop:=(d,some o)∈p.news\/(d,some o)∈p.X9\/(∀x,(d,x)∉p.X9)/\p.mem.get d=some o
def Piece.tells (p:Piece) (g:Mem):Prop:=∀d o,p.says d o->g d=some o
structure Wm (P:Program) (w0:World) (p:Piece):Prop where
 goes:Goes P p.f
 nd:(p.news.map (·.1)).Nodup
 ge:∀d∈p.news.map (·.1),p.ins.length<=d
 call:jC P w0 p.f p.args p.mem.get p.ins.length fun v g N=>v=p.v/\p.ins.length<=N/\p.tells g
def UJ (h:aj) (l:List (Nat×Option ax)):Bool:=l.all fun x=>match x.2 with | some o=>holds (h.get x.1) o | none=>true
noncomputable def Piece.fits (p:Piece):Option gQ->Bool
 | some (.val v h)=>AV.same v p.v&&(UJ h p.X9&&(UJ h p.news&&(BO (p.news.map (·.1))&&(p.news.all (fun x=>Nat.ble p.ins.length x.1)&&(memT p.ins 0).all fun x=>match said p.X9 x.1,x.2 with | none,some o=>holds (h.get x.1) o | _,_=>true))))
 | _=>false
noncomputable def UK {β:Type} (l:List (Nat×Option ax)) (k:Tr->β):Tr->β:=List.rec k (fun p _ ih t=>dB p.1 fun d=>match p.2 with
 | some o=>yf o fun o=>dK (some o) (d+1) d t ih
 | none=>dK none (d+1) d t ih) l
theorem Fe {β:Type} (k:Tr->β):∀(l:List (Nat×Option ax)) (t:Tr),UK l k t=k (layAll l t)
 | [],t=>rfl
 | (d,some o)::r,t=>by
  show dB d (fun d=>yf o fun o=>dK (some o) (d+1) d t (UK r k))=_
  rw [gJ,JE,bH,Fe k r]
  rfl
 | (d,none)::r,t=>by
  show dB d (fun d=>dK none (d+1) d t (UK r k))=_
  rw [gJ,bH,Fe k r]
  rfl
noncomputable def PV {β:Type} (l:List AV):(List AV->β)->β:=List.rec (fun k=>k []) (fun a _ ih k=>BM a fun a=>ih fun r=>k (a::r)) l
theorem J3 {β:Type}:∀(l:List AV) (k:List AV->β),PV l k=k l
 | [],k=>rfl
 | a::l,k=>by
  show BM a (fun a=>PV l fun r=>k (a::r))=_
  rw [BN,J3 l]
noncomputable def Piece.check (P:Program) (X:List (Nat×XK)) (O:iY) (n:Nat) (p:Piece):Bool:=
 PV p.args fun args=>dB p.ins.length fun k=>UK (memT p.ins 0) (fun t=>p.fits (run P X O n (.fn p.f args ⟨t,k,k⟩))) .nil
theorem J4 {h:aj} {l:List (Nat×Option ax)} (hf:UJ h l=true) {d:Nat} {o:ax} (hs:(d,some o)∈l):h.get d=some o:=by
 have:=List.all_eq_true.1 hf _ hs
 exact NH this
theorem BV:∀{l:List (Nat×Option ax)} {d:Nat},said l d=none->∀x,(d,x)∉l
 | [],d,_,x,h=>by cases h
 | (c,o)::r,d,hs,x,h=>by
  simp only [said] at hs
  split at hs
  ·cases hs
  ·rename_i hr
   split at hs
   ·cases hs
   ·rename_i hne
    rcases List.mem_cons.1 h with h | h
    ·injection h with h1 h2;exact hne h1
    ·exact BV hr x h
theorem Lp:∀{l:List (Option ax)} {i d:Nat} {o:Option ax},l[d]?=some o->(i+d,o)∈memT l i
 | [],i,d,o,h=>by simp at h
 | a::l,i,d,o,h=>by
  cases d with
  | zero=>simp at h;subst h;simp [memT]
  | succ d=>
   have:=Lp (i:=i+1) (l:=l) (d:=d) (o:=o) (by simpa using h)
   rw [memT]
   refine List.mem_cons_of_mem _ ?_
   rwa [show i+(d+1)=i+1+d by omega]
theorem Piece.ok {P:Program} {w0:World} {X:List (Nat×XK)} {O:iY} (hX:∀f x,CW X f=some x->C8 P f x) (hO:X7 P w0 O) (hG:∀(f:FuncId) (fn:Func) (c:Code),P.funcs[f]?=some fn->fn.body=some c->Goes P f) (hm:P.follows .mixedOrders=true)
  {n:Nat} {p:Piece} (h:p.check P X O n=true):Wm P w0 p:=by
 unfold Piece.check at h
 rw [J3,gJ,Fe] at h
 change p.fits (run P X O n (.fn p.f p.args p.mem))=true at h
 cases hr:run P X O n (.fn p.f p.args p.mem) with
 | none=>rw [hr] at h;cases h
 | some r=>
  have hc:=J2 hX hO hG hm n _ _ hr
  cases r with
  | st e s=>exact hc.elim
  | val v h1=>
   rw [hr] at h
   simp only [Piece.fits,Bool.and_eq_true] at h
   obtain⟨e1,e2,e3,e5,e6,e4⟩:=h
   obtain⟨l1,g1,c1⟩:=hc
   refine⟨g1,qI e5,fun d hd=>?_,c1.mono ?_⟩
   ·obtain⟨x,hx,rfl⟩:=List.mem_map.1 hd
    exact Nat.le_of_ble_eq_true (List.all_eq_true.1 e6 x hx)
   rintro v' g N ⟨rfl,rfl,rfl⟩
   refine⟨AV.same_eq _ _ e1,l1.next,fun d o hd=>?_⟩
   rcases hd with hd | hd | ⟨hd,hm⟩
   ·exact J4 e3 hd
   ·exact J4 e2 hd
   ·have hi:=(Piece.zJ hm).2
    have:=List.all_eq_true.1 e4 _ (Lp (i:=0) hi)
    have hs:said p.X9 d=none:=by
     cases hs:said p.X9 d with
     | none=>rfl
     | some x=>exact absurd (oO hs) (hd x)
    simp only [Nat.zero_add,hs] at this
    exact NH this
noncomputable def Piece.out (p:Piece) (l:List Nat) (N:Nat) (d:Nat):Option Nat:=Bool.rec ((oP (p.news.map (·.1)) d).map (N+·)) l[d]? (Nat.blt d p.ins.length)
theorem BX:∀{l:List Nat},l.Nodup->∀{i j d:Nat},l[i]?=some d->l[j]?=some d->i=j
 | [],_,i,j,d,h,_=>by simp at h
 | a::l,hn,i,j,d,h1,h2=>by
  obtain⟨n1,n2⟩:=List.nodup_cons.1 hn
  cases i with
  | zero=>
   simp at h1;subst h1
   cases j with
   | zero=>rfl
   | succ j=>exact absurd (List.mem_of_getElem? (by simpa using h2)) n1
  | succ i=>
   cases j with
   | zero=>simp at h2;subst h2;exact absurd (List.mem_of_getElem? (by simpa using h1)) n1
   | succ j=>exact congrArg (·+1) (BX n2 (i:=i) (j:=j) (d:=d) (by simpa using h1) (by simpa using h2))
theorem Wm.frame {P:Program} {w0:World} {p:Piece} (h:Wm P w0 p) {g:Mem} {N:Nat} {args:List AV} {l:List Nat} (hk:l.length=p.ins.length) (hnd:l.Nodup) (hlt:∀d∈l,d < N)
  (hargs:oQ (oP l) args=some p.args) (hin:∀(i d:Nat),l[i]?=some d->match p.ins[i]? with | some (some o)=>∃b,g d=some b/\ax.ren (oP l) b=some o | _=>True)
  {v':AV} (hv':AV.ren (p.out l N) p.v=some v') {g':Mem}
  (hg:∀d o,g' d=some o->(∃i o0,p.out l N i=some d/\ax.ren (p.out l N) o0=some o/\p.says i o0)\/(d∉l/\d < N/\g d=some o)):
  jC P w0 p.f args g N fun v q M=>v=v'/\q=g'/\M=N+p.news.length:=by
 intro σ w vs hv r b
 let σ0:aZ:=⟨fun i=>σ.at_ (l.getD i 0),fun i=>σ.sz (l.getD i 0)⟩
 have hD:∀{i d:Nat},l[i]?=some d->l.getD i 0=d:=fun {i d} hi=>by rw [List.getD_eq_getElem?_getD,hi];rfl
 have hc0:vG σ N (oP l) σ0 p.ins.length:=fun d e he _=>by
  have:=sQ he
  have hlt:=(List.getElem?_eq_some_iff.1 this).1
  exact⟨by omega,by show σ.at_ (l.getD e 0)=_;rw [hD this],by show σ.sz (l.getD e 0)=_;rw [hD this]⟩
 have hsm:∀i o,p.mem.get i=some o->∃d b,l[i]?=some d/\g d=some b/\ax.ren (oP l) b=some o:=fun i o ho=>by
  obtain⟨hi,hp⟩:=Piece.zJ ho
  obtain⟨d,hd⟩:∃d,l[i]?=some d:=⟨_,List.getElem?_eq_getElem (by omega)⟩
  have:=hin i d hd
  rw [hp] at this
  obtain⟨b,h1,h2⟩:=this
  exact⟨d,b,hd,h1,h2⟩
 have hro:∀{ρ:Nat->Option Nat} {a b:ax},ax.ren ρ a=some b->b.ro=a.ro:=fun {ρ a b} hab=>by
  unfold ax.ren at hab
  split at hab
  ·simp only [Option.map_eq_some_iff] at hab;obtain⟨_,_,rfl⟩:=hab;rfl
  ·simp only [Option.map_eq_some_iff] at hab;obtain⟨_,_,rfl⟩:=hab;rfl
  ·simp only [Option.map_eq_some_iff] at hab;obtain⟨_,_,rfl⟩:=hab;rfl
  ·injection hab with hab;subst hab;rfl
  ·cases hab
 have hidx:∀{i j d:Nat},l[i]?=some d->l[j]?=some d->i=j:=fun {i j d} h1 h2=>BX hnd h1 h2
 have r0:eF σ0 p.mem.get p.ins.length w:=⟨fun i o ho=>by
   obtain⟨d,b,h1,h2,h3⟩:=hsm i o ho
   obtain⟨_,O,hO,hR⟩:=r.ob d b h2
   refine⟨(Piece.zJ ho).1,O,?_,?_⟩
   ·show w.heap[σ.at_ (l.getD i 0)]?=_
    rw [hD h1];exact hO
   ·show oo σ0 _ (σ.sz (l.getD i 0)) o O
    rw [hD h1]
    exact(hR.ren hc0 h3).1,fun i j o o' h1 h2 hw he=>by
   obtain⟨d,b,a1,a2,a3⟩:=hsm i o h1
   obtain⟨d',b',b1,b2,b3⟩:=hsm j o' h2
   have he':σ.at_ (l.getD i 0)=σ.at_ (l.getD j 0):=he
   rw [hD a1,hD b1] at he'
   have:=r.inj d d' b b' a2 b2 (by rw [<- hro a3];exact hw) he'
   subst this
   exact hidx a1 b1⟩
 have b0:Base w0 σ0 p.mem.get w:=⟨b.os,b.tape,b.output,b.size,b.block,fun i o ho hw=>by
  obtain⟨d,q,a1,a2,a3⟩:=hsm i o ho
  show _<=σ.at_ (l.getD i 0)
  rw [hD a1]
  exact b.wr d q a2 (by rw [<- hro a3];exact hw)⟩
 refine CallsIn.mono (h.call σ0 w vs (ai.ren hc0 _ _ _ hargs hv) r0 b0) ?_
 rintro e w' ⟨v,q,g1,N1,σ1,he,⟨hq1,hq2,hq3⟩,po,TN⟩
 subst hq1
 let ds:=p.news.map (·.1)
 let σ':aZ:=⟨fun d=>if d < N then σ.at_ d else σ1.at_ (ds.getD (d - N) 0),fun d=>if d < N then σ.sz d else σ1.sz (ds.getD (d - N) 0)⟩
 have PO:Ext σ N σ' (N+p.news.length):=⟨by omega,fun d hd=>by simp [σ',hd],fun d hd=>by simp [σ',hd]⟩
 have hol:∀{i d:Nat},p.out l N i=some d->(i < p.ins.length/\l[i]?=some d)\/(¬i < p.ins.length/\∃j,oP ds i=some j/\d=N+j):=fun {i d} hd=>by
  change (Bool.rec ((oP ds i).map (N+·)) l[i]? (Nat.blt i p.ins.length):Option Nat)=some d at hd
  cases e:Nat.blt i p.ins.length with
  | true=>rw [e] at hd;exact .inl ⟨by simpa [Nat.blt_eq] using e,hd⟩
  | false=>
   rw [e] at hd
   simp only [Option.map_eq_some_iff] at hd
   obtain⟨j,h1,h2⟩:=hd
   refine .inr ⟨fun hlt=>?_,j,h1,h2.symm⟩
   have:Nat.blt i p.ins.length=true:=by simpa [Nat.blt_eq] using hlt
   rw [this] at e;cases e
 have hc1:∀i d,p.out l N i=some d->d < N+p.news.length/\σ'.at_ d=σ1.at_ i/\σ'.sz d=σ1.sz i:=fun i d hd=>by
  rcases hol hd with⟨hi,hd⟩ | ⟨_,j,hj,rfl⟩
  ·have hdN:=hlt d (List.mem_of_getElem? hd)
   refine⟨by omega,?_,?_⟩
   ·show(if d < N then _ else _)=_
    rw [if_pos hdN,po.ext.at_ i hi]
    show _=σ.at_ (l.getD i 0)
    rw [hD hd]
   ·show(if d < N then _ else _)=_
    rw [if_pos hdN,po.ext.sz i hi]
    show _=σ.sz (l.getD i 0)
    rw [hD hd]
  ·have h1:=sQ hj
   have h2:=(List.getElem?_eq_some_iff.1 h1).1
   have h3:ds.getD (N+j - N) 0=i:=by rw [Nat.add_sub_cancel_left,List.getD_eq_getElem?_getD,h1];rfl
   refine⟨by simp only [ds,List.length_map] at h2;omega,?_,?_⟩
   ·show(if N+j < N then _ else _)=_
    rw [if_neg (by omega),h3]
   ·show(if N+j < N then _ else _)=_
    rw [if_neg (by omega),h3]
 have hcar:vG σ1 N1 (p.out l N) σ' (N+p.news.length):=fun d e he _=>hc1 d e he
 refine⟨v,v',g',N+p.news.length,σ',he,⟨rfl,rfl,rfl⟩,?_,af.ren hcar _ _ _ hv' TN⟩
 have hsplit:∀d o,g' d=some o->(∃i o0,p.out l N i=some d/\ax.ren (p.out l N) o0=some o/\g1 i=some o0)\/(d∉l/\d < N/\g d=some o):=fun d o hd=>by
  rcases hg d o hd with⟨i,o0,a1,a2,a3⟩ | q
  ·exact .inl ⟨i,o0,a1,a2,hq3 i o0 a3⟩
  ·exact .inr q
 have hold:∀d,d < N->σ'.at_ d=σ.at_ d/\σ'.sz d=σ.sz d:=fun d hd=>⟨PO.at_ d hd,PO.sz d hd⟩
 have hoff:∀d o,d∉l->g d=some o->∀i o',p.mem.get i=some o'->o'.ro=false\/o.ro=false->σ0.at_ i≠σ.at_ d:=by
  intro d o h1 h2 i o' h3 h4 h5
  obtain⟨d',q,a1,a2,a3⟩:=hsm i o' h3
  have h5':σ.at_ (l.getD i 0)=σ.at_ d:=h5
  rw [hD a1] at h5'
  have hm:=List.mem_of_getElem? a1
  have:d'=d:=by
   rcases h4 with h4 | h4
   ·exact r.inj d' d q o a2 h2 (by rw [<- hro a3];exact h4) h5'
   ·exact(r.inj d d' o q h2 a2 h4 h5'.symm).symm
  subst this
  exact h1 hm
 have hkeep:∀d o,d∉l->g d=some o->w'.heap[σ.at_ d]?=w.heap[σ.at_ d]?/\(∀i o',g1 i=some o'->o'.ro=false->σ1.at_ i≠σ.at_ d):=by
  intro d o h1 h2
  exact po.keep.block _ (r.wI h2) fun i o' h3 h4=>hoff d o h1 h2 i o' h3 (.inl h4)
 have htold:∀d o,d∉l->g d=some o->o.ro=false->∀i o',g1 i=some o'->σ1.at_ i≠σ.at_ d:=by
  intro d o h1 h2 h3
  exact po.keep.told _ (r.wI h2) fun i o' h4=>hoff d o h1 h2 i o' h4 (.inr h3)
 refine⟨PO,⟨po.keep.size,fun k hk hw=>?_,fun k hk hw d o hd=>?_⟩,⟨fun d o hd=>?_,fun d e o o' h1 h2 hw he=>?_⟩,⟨po.base.os,po.base.tape,po.base.output,po.base.size,po.base.block,fun d o hd hw=>?_⟩⟩
 ·obtain⟨k1,k2⟩:=po.keep.block k hk fun i o ho hw'=>by
   obtain⟨d,q,a1,a2,a3⟩:=hsm i o ho
   show σ.at_ (l.getD i 0)≠k
   rw [hD a1]
   exact hw d q a2 (by rw [<- hro a3];exact hw')
  refine⟨k1,fun d o hd hw'=>?_⟩
  rcases hsplit d o hd with⟨i,o0,a1,a2,a3⟩ | ⟨_,hdN,q⟩
  ·rw [(hc1 i d a1).2.1];exact k2 i o0 a3 (by rw [<- hro a2];exact hw')
  ·rw [(hold d hdN).1];exact hw d o q hw'
 ·rcases hsplit d o hd with⟨i,o0,a1,a2,a3⟩ | ⟨_,hdN,q⟩
  ·rw [(hc1 i d a1).2.1]
   refine po.keep.told k hk (fun i o ho=>?_) i o0 a3
   obtain⟨d,q,a1,a2,a3⟩:=hsm i o ho
   show σ.at_ (l.getD i 0)≠k
   rw [hD a1]
   exact hw d q a2
  ·rw [(hold d hdN).1];exact hw d o q
 ·rcases hsplit d o hd with⟨i,o0,a1,a2,a3⟩ | ⟨h1,hdN,q⟩
  ·obtain⟨_,O,hO,hR⟩:=po.rel.ob i o0 a3
   obtain⟨c1,c2,c3⟩:=hc1 i d a1
   refine⟨c1,O,by rw [c2];exact hO,?_⟩
   rw [c3]
   exact(hR.ren hcar a2).1
  ·obtain⟨hN,O,hO,hR⟩:=r.ob d o q
   refine⟨by omega,O,?_,?_⟩
   ·rw [(hold d hdN).1,(hkeep d o h1 q).1];exact hO
   ·rw [(hold d hdN).2];exact hR.ext PO
 ·rcases hsplit d o h1 with⟨i,o0,a1,a2,a3⟩ | ⟨m1,hdN,q⟩<;>rcases hsplit e o' h2 with⟨j,o1,b1,b2,b3⟩ | ⟨m2,heN,q'⟩
  ·rw [(hc1 i d a1).2.1,(hc1 j e b1).2.1] at he
   have:=po.rel.inj i j o0 o1 a3 b3 (by rw [<- hro a2];exact hw) he
   subst this
   rw [a1] at b1
   injection b1
  ·rw [(hc1 i d a1).2.1,(hold e heN).1] at he
   exact absurd he ((hkeep e o' m2 q').2 i o0 a3 (by rw [<- hro a2];exact hw))
  ·rw [(hold d hdN).1,(hc1 j e b1).2.1] at he
   exact absurd he.symm (htold d o m1 q hw j o1 b3)
  ·rw [(hold d hdN).1,(hold e heN).1] at he
   exact r.inj d e o o' q q' hw he
 ·rcases hsplit d o hd with⟨i,o0,a1,a2,a3⟩ | ⟨_,hdN,q⟩
  ·rw [(hc1 i d a1).2.1];exact po.base.wr i o0 a3 (by rw [<- hro a2];exact hw)
  ·rw [(hold d hdN).1];exact b.wr d o q hw
mutual
theorem AV.oU {ρ ρ':Nat->Option Nat} (h:∀d e,ρ d=some e->ρ' e=some d):∀(a b:AV),AV.ren ρ a=some b->AV.ren ρ' b=some a
 | .b x,b,hb=>by simp only [AV.ren,Option.some.injEq] at hb;subst hb;rfl
 | .i k x,b,hb=>by simp only [AV.ren,Option.some.injEq] at hb;subst hb;rfl
 | .f x,b,hb=>by simp only [AV.ren,Option.some.injEq] at hb;subst hb;rfl
 | .p none,b,hb=>by simp only [AV.ren,Option.some.injEq] at hb;subst hb;rfl
 | .p (some (d,o)),b,hb=>by
  simp only [AV.ren,Option.map_eq_some_iff] at hb
  obtain⟨e,he,rfl⟩:=hb
  simp [AV.ren,h d e he]
 | .s none n c e,b,hb=>by simp only [AV.ren,Option.some.injEq] at hb;subst hb;rfl
 | .s (some (d,o)) n c e,b,hb=>by
  simp only [AV.ren,Option.map_eq_some_iff] at hb
  obtain⟨q,he,rfl⟩:=hb
  simp [AV.ren,h d q he]
 | .m none,b,hb=>by simp only [AV.ren,Option.some.injEq] at hb;subst hb;rfl
 | .m (some d),b,hb=>by
  simp only [AV.ren,Option.map_eq_some_iff] at hb
  obtain⟨e,he,rfl⟩:=hb
  simp [AV.ren,h d e he]
 | .fn (.func f) fs cs,b,hb=>by
  simp only [AV.ren] at hb
  split at hb
  ·rename_i fs' cs' h1 h2
   injection hb with hb;subst hb
   simp [AV.ren,lQ h _ _ h1,lQ h _ _ h2]
  ·cases hb
 | .fn (.yield l) fs cs,b,hb=>by simp [AV.ren] at hb
 | .bD,b,hb=>by simp only [AV.ren,Option.some.injEq] at hb;subst hb;rfl
 | .agg cs,b,hb=>by
  simp only [AV.ren,Option.map_eq_some_iff] at hb
  obtain⟨ds,hd,rfl⟩:=hb
  simp [AV.ren,lQ h _ _ hd]
 | .aF cs,b,hb=>by
  simp only [AV.ren,Option.map_eq_some_iff] at hb
  obtain⟨ds,hd,rfl⟩:=hb
  simp [AV.ren,lQ h _ _ hd]
 | .bg,b,hb=>by simp only [AV.ren,Option.some.injEq] at hb;subst hb;rfl
theorem lQ {ρ ρ':Nat->Option Nat} (h:∀d e,ρ d=some e->ρ' e=some d):∀(ae bs:List AV),oQ ρ ae=some bs->oQ ρ' bs=some ae
 | [],bs,hb=>by simp only [oQ,Option.some.injEq] at hb;subst hb;rfl
 | a::ae,bs,hb=>by
  unfold oQ at hb
  split at hb
  ·rename_i b bs' h1 h2
   injection hb with hb;subst hb
   simp [oQ,AV.oU h _ _ h1,lQ h _ _ h2]
  ·cases hb
end
theorem J5 {ρ ρ':Nat->Option Nat} (h:∀d e,ρ d=some e->ρ' e=some d):∀(ae bs:List (AV×AV)),I4 ρ ae=some bs->I4 ρ' bs=some ae
 | [],bs,hb=>by simp only [I4,Option.some.injEq] at hb;subst hb;rfl
 | (k,v)::ae,bs,hb=>by
  unfold I4 at hb
  split at hb
  ·rename_i k' v' r' h1 h2 h3
   injection hb with hb;subst hb
   simp [I4,AV.oU h _ _ h1,AV.oU h _ _ h2,J5 h _ _ h3]
  ·cases hb
theorem ax.oU {ρ ρ':Nat->Option Nat} (h:∀d e,ρ d=some e->ρ' e=some d) {a b:ax} (hb:ax.ren ρ a=some b):ax.ren ρ' b=some a:=by
 unfold ax.ren at hb
 split at hb
 ·simp only [Option.map_eq_some_iff] at hb
  obtain⟨ds,hd,rfl⟩:=hb
  simp [ax.ren,lQ h _ _ hd]
 ·simp only [Option.map_eq_some_iff] at hb
  obtain⟨u,hu,rfl⟩:=hb
  simp [ax.ren,AV.oU h _ _ hu]
 ·simp only [Option.map_eq_some_iff] at hb
  obtain⟨es,he,rfl⟩:=hb
  simp [ax.ren,J5 h _ _ he]
 ·injection hb with hb;subst hb;rfl
 ·cases hb
def noO:Option ax->Bool
 | none=>true
 | some _=>false
noncomputable def Dh (ρ:Nat->Option Nat) (h:aj):List Nat->List (Option ax)->Bool
 | [],[]=>true
 | d::l,some o::r=>(match h.get d with
  | some b=>match ax.ren ρ b with
   | some o'=>ax.same o' o
   | none=>false
  | none=>false)&&Dh ρ h l r
 | d::l,none::r=>noO (h.get d)&&Dh ρ h l r
 | _,_=>false
theorem BZ {ρ:Nat->Option Nat} {h:aj}:∀{l:List Nat} {r:List (Option ax)},Dh ρ h l r=true->l.length=r.length/\∀(i d:Nat),l[i]?=some d->match r[i]? with | some (some o)=>∃b,h.get d=some b/\ax.ren ρ b=some o | some none=>h.get d=none | none=>True
 | [],[],_=>⟨rfl,fun i d h=>by simp at h⟩
 | d::l,some o::r,hk=>by
  simp only [Dh,Bool.and_eq_true] at hk
  obtain⟨h1,h2⟩:=hk
  obtain⟨q1,q2⟩:=BZ h2
  refine⟨by simp [q1],fun i e he=>?_⟩
  cases i with
  | zero=>
   simp at he;subst he
   simp only [List.getElem?_cons_zero]
   split at h1
   ·rename_i b hb
    split at h1
    ·rename_i o' ho
     exact⟨b,hb,by rw [ho,ax.same_eq h1]⟩
    ·cases h1
   ·cases h1
  | succ i=>simpa using q2 i e (by simpa using he)
 | d::l,none::r,hk=>by
  simp only [Dh,Bool.and_eq_true] at hk
  obtain⟨q0,hk⟩:=hk
  obtain⟨q1,q2⟩:=BZ hk
  refine⟨by simp [q1],fun i e he=>?_⟩
  cases i with
  | zero=>
   simp at he;subst he
   simp only [List.getElem?_cons_zero]
   cases hq:h.get d with
   | none=>rfl
   | some o=>rw [hq] at q0;cases q0
  | succ i=>simpa using q2 i e (by simpa using he)
 | [],_::_,hk=>by simp [Dh] at hk
 | _::_,[],hk=>by simp [Dh] at hk
def SH (ρ:Nat->Option Nat):Option ax->Option (Option ax)
 | none=>some none
 | some o=>(ax.ren ρ o).map some
def I5 (ρ:Nat->Option Nat):List (Nat×Option ax)->Option (List (Nat×Option ax))
 | []=>some []
 | (i,o)::r=>match ρ i,SH ρ o,I5 ρ r with
  | some d,some x,some q=>some ((d,x)::q)
  | _,_,_=>none
theorem zK {ρ:Nat->Option Nat}:∀{l q:List (Nat×Option ax)},I5 ρ l=some q->∀d x,(d,x)∈q->∃i o,(i,o)∈l/\ρ i=some d/\SH ρ o=some x
 | [],q,h,d,x,hm=>by simp only [I5,Option.some.injEq] at h;subst h;cases hm
 | (i,o)::r,q,h,d,x,hm=>by
  unfold I5 at h
  split at h
  ·rename_i d0 x0 q0 h1 h2 h3
   injection h with h;subst h
   rcases List.mem_cons.1 hm with hm | hm
   ·injection hm with e1 e2;subst e1 e2
    exact⟨i,o,by simp,h1,h2⟩
   ·obtain⟨i',o',a1,a2,a3⟩:=zK h3 d x hm
    exact⟨i',o',by simp [a1],a2,a3⟩
  ·cases h
theorem Lr {ρ:Nat->Option Nat}:∀{l q:List (Nat×Option ax)},I5 ρ l=some q->∀i o,(i,o)∈l->∃d x,(d,x)∈q/\ρ i=some d
 | [],q,h,i,o,hm=>by cases hm
 | (j,p)::r,q,h,i,o,hm=>by
  unfold I5 at h
  split at h
  ·rename_i d0 x0 q0 h1 h2 h3
   injection h with h;subst h
   rcases List.mem_cons.1 hm with hm | hm
   ·injection hm with e1 e2;subst e1 e2
    exact⟨d0,x0,by simp,h1⟩
   ·obtain⟨d',x',a1,a2⟩:=Lr h3 i o hm
    exact⟨d',x',by simp [a1],a2⟩
  ·cases h
def J6 (lo:Nat):List (Nat×Option ax)->Nat
 | []=>lo
 | (d,_)::r=>J6 (min lo d) r
theorem NJ:∀(l:List (Nat×Option ax)) (lo:Nat),J6 lo l<=lo/\∀d x,(d,x)∈l->J6 lo l<=d
 | [],lo=>⟨Nat.le_refl _,fun d x h=>by cases h⟩
 | (e,y)::r,lo=>by
  obtain⟨h1,h2⟩:=NJ r (min lo e)
  have h3:=Nat.min_le_left lo e
  have h4:=Nat.min_le_right lo e
  refine⟨by simp only [J6];omega,fun d x h=>?_⟩
  simp only [J6]
  rcases List.mem_cons.1 h with h | h
  ·injection h with e1 _;subst e1;omega
  ·exact h2 d x h
noncomputable def Piece.end_ (p:Piece) (h:aj):Option AV->Option (List (Nat×Option ax))->Option (List (Nat×Option ax))->Option (AV×aj)
 | some v,some c,some n=>UK (c++n) (fun t=>dB (J6 h.lo c) fun lo=>dB (h.next+p.news.length) fun nx=>BM v fun v=>some (v,⟨t,nx,lo⟩)) h.t
 | _,_,_=>none
noncomputable def Piece.fit (p:Piece) (l:List Nat) (args:List AV) (h:aj):Bool:=
 (match oQ (oP l) args with | some a=>zI a p.args | none=>false)&&(Dh (oP l) h l p.ins&&(BO l&&l.all fun d=>Nat.blt d h.next))
noncomputable def Piece.use (p:Piece) (l:List Nat) (h:aj):Option (AV×aj):=
 p.end_ h (AV.ren (p.out l h.next) p.v) (I5 (p.out l h.next) p.X9) (I5 (p.out l h.next) p.news)
noncomputable def NK (f:FuncId) (l:List Nat) (args:List AV) (h:aj):List Piece->Option (AV×aj):=List.rec none fun p _ ih=>
 Bool.rec ih (Bool.rec ih (p.use l h) (p.fit l args h)) (Nat.beq f p.f)
noncomputable def pieces (ps:List Piece):iY:=fun f args h=>
 Bool.rec none (Fb (canon h 1000 0 (F3 [] (numsL args))) fun l=>NK f l args h ps) (ps.any fun p=>Nat.beq f p.f)
theorem ZM {P:Program} {w0:World} {p:Piece} (hp:Wm P w0 p) {l:List Nat} {args:List AV} {h:aj} (hf:p.fit l args h=true) {v:AV} {h':aj} (e:p.use l h=some (v,h')):
  jl h h'/\Goes P p.f/\jC P w0 p.f args h.get h.next fun v' g N=>v'=v/\g=h'.get/\N=h'.next:=by
 simp only [Piece.fit,Bool.and_eq_true] at hf
 obtain⟨f1,f2,f3,f4⟩:=hf
 have hargs:oQ (oP l) args=some p.args:=by
  split at f1
  ·rename_i a ha;rw [ha,l8 _ _ f1]
  ·cases f1
 obtain⟨hlen,hins⟩:=BZ f2
 have hnd:=qI f3
 have hlt:∀d∈l,d < h.next:=fun d hd=>by
  have:=List.all_eq_true.1 f4 d hd
  simpa [Nat.blt_eq] using this
 unfold Piece.use at e
 cases hv:AV.ren (p.out l h.next) p.v with
 | none=>rw [hv] at e;cases e
 | some v1=>
 cases hc:I5 (p.out l h.next) p.X9 with
 | none=>rw [hv,hc] at e;cases e
 | some c=>
 cases hn:I5 (p.out l h.next) p.news with
 | none=>rw [hv,hc,hn] at e;cases e
 | some n=>
 rw [hv,hc,hn] at e
 simp only [Piece.end_,Fe,gJ,BN,Option.some.injEq,Prod.mk.injEq] at e
 obtain⟨rfl,rfl⟩:=e
 have hnew:∀i o,(i,o)∈p.news->∀d,p.out l h.next i=some d->∃j,oP (p.news.map (·.1)) i=some j/\d=h.next+j:=fun i o hi d hd=>by
  have hge:=hp.ge i (List.mem_map.2 ⟨(i,o),hi,rfl⟩)
  change (Bool.rec ((oP (p.news.map (·.1)) i).map (h.next+·)) l[i]? (Nat.blt i p.ins.length):Option Nat)=some d at hd
  have:Nat.blt i p.ins.length=false:=by
   cases q:Nat.blt i p.ins.length with
   | false=>rfl
   | true=>rw [Nat.blt_eq] at q;omega
  rw [this] at hd
  simp only [Option.map_eq_some_iff] at hd
  obtain⟨j,h1,h2⟩:=hd
  exact⟨j,h1,h2.symm⟩
 have hcov:∀d,h.next<=d->d < h.next+p.news.length->∃x,(d,x)∈n:=fun d h1 h2=>by
  obtain⟨j,rfl⟩:∃j,d=h.next+j:=⟨d - h.next,by omega⟩
  have hj:j < p.news.length:=by omega
  rcases hio:p.news[j] with⟨i,o⟩
  have hm:(i,o)∈p.news:=by rw [<- hio];exact List.getElem_mem hj
  obtain⟨d',x,m1,m2⟩:=Lr hn i o hm
  obtain⟨j',h3,rfl⟩:=hnew i o hm d' m2
  have h4:=sQ h3
  have h5:(p.news.map (·.1))[j]?=some i:=by rw [List.getElem?_map,List.getElem?_eq_getElem hj,hio];rfl
  rw [BX hp.nd h4 h5] at m1
  exact⟨x,m1⟩
 have hback:∀d i,oP l d=some i->p.out l h.next i=some d:=fun d i hi=>by
  have h1:=sQ hi
  have h2:i < p.ins.length:=by rw [<- hlen];exact(List.getElem?_eq_some_iff.1 h1).1
  change (Bool.rec ((oP (p.news.map (·.1)) i).map (h.next+·)) l[i]? (Nat.blt i p.ins.length):Option Nat)=some d
  have:Nat.blt i p.ins.length=true:=by rw [Nat.blt_eq];exact h2
  rw [this]
  exact h1
 have hin:∀i d,p.out l h.next i=some d->i < p.ins.length->l[i]?=some d:=fun i d hd hi=>by
  change (Bool.rec ((oP (p.news.map (·.1)) i).map (h.next+·)) l[i]? (Nat.blt i p.ins.length):Option Nat)=some d at hd
  have:Nat.blt i p.ins.length=true:=by rw [Nat.blt_eq];exact hi
  rw [this] at hd
  exact hd
 obtain⟨lo1,lo2⟩:=NJ c h.lo
 refine⟨⟨by simp,lo1,fun d h1 h2=>?_⟩,hp.goes,?_⟩
 ·have hs:said (c++n) d=none:=by
   cases hs:said (c++n) d with
   | none=>rfl
   | some x=>
    rcases List.mem_append.1 (oO hs) with hm | hm
    ·have:=lo2 d x hm
     simp only at h1
     omega
    ·obtain⟨i,o,a1,a2,_⟩:=zK hn d x hm
     obtain⟨j,_,rfl⟩:=hnew i o a1 d a2
     omega
  unfold aj.get
  simp only [l9,hs]
  rw [if_pos h2,if_pos (by omega)]
 ·refine hp.frame hlen hnd hlt hargs (fun i d hi=>by
   have:=hins i d hi
   split at this<;>rename_i hq<;>rw [hq]<;>first | exact this | trivial) hv fun d o hd=>?_
  unfold aj.get at hd
  simp only [l9] at hd
  split at hd
  ·rename_i hlt'
   cases hs:said (c++n) d with
   | some x=>
    rw [hs] at hd
    simp only at hd
    subst hd
    refine .inl ?_
    rcases List.mem_append.1 (oO hs) with hm | hm
    ·obtain⟨i,q,a1,a2,a3⟩:=zK hc d _ hm
     cases q with
     | none=>simp [SH] at a3
     | some q=>
      simp only [SH,Option.map_eq_some_iff,Option.some.injEq] at a3
      obtain⟨_,a3,rfl⟩:=a3
      exact⟨i,q,a2,a3, .inr (.inl a1)⟩
    ·obtain⟨i,q,a1,a2,a3⟩:=zK hn d _ hm
     cases q with
     | none=>simp [SH] at a3
     | some q=>
      simp only [SH,Option.map_eq_some_iff,Option.some.injEq] at a3
      obtain⟨_,a3,rfl⟩:=a3
      exact⟨i,q,a2,a3, .inl a1⟩
   | none=>
    rw [hs] at hd
    simp only at hd
    have hno:=BV hs
    have hdN:d < h.next:=by
     refine Nat.lt_of_not_le fun q=>?_
     obtain⟨x,hx⟩:=hcov d q hlt'
     exact hno x (List.mem_append_right _ hx)
    have hgd:h.get d=some o:=by unfold aj.get;rw [if_pos hdN];exact hd
    by_cases hdl:d∈l
    ·obtain⟨i,hi⟩:=List.mem_iff_getElem?.1 hdl
     have hil:i < p.ins.length:=by rw [<- hlen];exact(List.getElem?_eq_some_iff.1 hi).1
     have hq:=hins i d hi
     cases hpi:p.ins[i]? with
     | none=>rw [List.getElem?_eq_getElem hil] at hpi;cases hpi
     | some q=>
      cases q with
      | none=>rw [hpi] at hq;rw [hq] at hgd;cases hgd
      | some q=>
       rw [hpi] at hq
       obtain⟨b,h1,h2⟩:=hq
       rw [hgd] at h1
       injection h1 with h1
       subst h1
       have hoi:p.out l h.next i=some d:=by
        change (Bool.rec ((oP (p.news.map (·.1)) i).map (h.next+·)) l[i]? (Nat.blt i p.ins.length):Option Nat)=some d
        rw [show Nat.blt i p.ins.length=true by rw [Nat.blt_eq];exact hil]
        exact hi
       refine .inl ⟨i,q,hoi,ax.oU hback h2, .inr (.inr ⟨fun x hx=>?_,?_⟩)⟩
       ·obtain⟨d',y,m1,m2⟩:=Lr hc i x hx
        rw [hoi] at m2
        injection m2 with m2
        subst m2
        exact hno y (List.mem_append_left _ m1)
       ·unfold aj.get
        rw [if_pos (show i < p.mem.next from hil),Piece.mem,l9]
        have hm:=Lp (i:=0) hpi
        rw [Nat.zero_add] at hm
        cases hsd:said (memT p.ins 0) i with
        | none=>exact absurd hm (BV hsd _)
        | some x=>
         obtain⟨_,h5⟩:=F5 (oO hsd)
         rw [Nat.sub_zero,hpi] at h5
         injection h5 with h5
         exact h5.symm
    ·exact .inr ⟨hdl,hdN,hgd⟩
  ·cases hd
theorem NL {P:Program} {w0:World} {f:FuncId} {l:List Nat} {args:List AV} {h:aj} {v:AV} {h':aj}:∀(ps:List Piece),(∀p∈ps,Wm P w0 p)->NK f l args h ps=some (v,h')->
  jl h h'/\Goes P f/\jC P w0 f args h.get h.next fun v' g N=>v'=v/\g=h'.get/\N=h'.next
 | [],_,e=>by cases e
 | p::ps,hl,e=>by
  change (Bool.rec (NK f l args h ps) (Bool.rec (NK f l args h ps) (p.use l h) (p.fit l args h)) (Nat.beq f p.f):Option (AV×aj))=some (v,h') at e
  have ih:=NL (f:=f) (l:=l) (args:=args) (h:=h) (v:=v) (h':=h') ps (fun q hq=>hl q (by simp [hq]))
  cases h1:Nat.beq f p.f with
  | false=>rw [h1] at e;exact ih e
  | true=>
   rw [h1] at e
   cases h2:p.fit l args h with
   | false=>rw [h2] at e;exact ih e
   | true=>
    rw [h2] at e
    rw [Nat.eq_of_beq_eq_true h1]
    exact ZM (hl p (by simp)) h2 e
theorem SI {P:Program} {w0:World} {ps:List Piece} (hl:∀p∈ps,Wm P w0 p):X7 P w0 (pieces ps):=fun f args h v h' e=>by
 unfold pieces at e
 cases hb:ps.any fun p=>Nat.beq f p.f with
 | false=>rw [hb] at e;cases e
 | true=>
  rw [hb] at e
  have e':(Fb (canon h 1000 0 (F3 [] (numsL args))) fun l=>NK f l args h ps)=some (v,h'):=e
  rw [F4] at e'
  exact NL ps hl e'
def Ks (P:Program) (H:World->Prop):List Piece->Prop
 | []=>True
 | p::r=>(∀w0,H w0->Wm P w0 p)/\Ks P H r
theorem Ks.all {P:Program} {H:World->Prop}:∀{l:List Piece},Ks P H l->∀w0,H w0->∀p∈l,Wm P w0 p
 | [],_,_,_,p,h=>by cases h
 | q::l,k,w0,hw,p,h=>by
  rcases List.mem_cons.1 h with rfl | h
  ·exact k.1 w0 hw
  ·exact Ks.all k.2 w0 hw p h
noncomputable def eY (A B:iY):iY:=fun f args h=>match A f args h with
 | some r=>some r
 | none=>B f args h
theorem ZN {P:Program} {w0:World} {A B:iY} (ha:X7 P w0 A) (hb:X7 P w0 B):X7 P w0 (eY A B):=fun f args h v h' e=>by
 unfold eY at e
 split at e
 ·rename_i r hr;injection e with e;subst e;exact ha _ _ _ _ _ hr
 ·exact hb _ _ _ _ _ e
end Go.AM
