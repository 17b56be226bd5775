/-
  A part of the proof that TopSteps answers true for every input that can be read as data.
-/
import Derived.Test.YtgledbghdhjgkaaGreatDoorZG
set_option linter.unusedSimpArgs false
set_option linter.unusedVariables false
namespace Go.TM
open Go Go.RowKit Go.AM
section
variable {σ:TE}
theorem fill_s {T:List TV} {e x:Int} {l:List Int}:TV.fill (.s T (some e)) (x::l)=(.s T (some x),l):=rfl
theorem Zb {T u:List TV} {v:Value} (h:af σ (.p (T++u)) v):af σ (.p T) v:=by
 simp only [af] at h ⊢
 obtain⟨r,o,B,n,j,q,w,e,h1,h2,h3,h4,h5⟩:=h
 rw [List.length_append] at h4
 exact⟨r,o,B,n,j,q,u++w,e,h1,h2,h3,by omega,by rw [h5,List.append_assoc]⟩
mutual
theorem jQ:∀(a b:TV) (c:Cs) (xs:List Int),TV.sU a b=some (c,xs)->aS.ok c->xs.length=TV.cnt a/\∀r,(TV.fill a (xs++r)).2=r/\∀v,af σ b v->af σ (TV.fill a (xs++r)).1 v
 | .i k none,b,c,xs,h,hc=>by
  simp only [TV.sU,Option.map_eq_some_iff,Prod.mk.injEq] at h
  obtain⟨c',hs,rfl,rfl⟩:=h
  exact⟨rfl,fun r=>⟨rfl,fun v hv=>lS _ _ _ hs hc v hv⟩⟩
 | .i k (some n),b,c,xs,h,hc=>by
  simp only [TV.sU] at h
  split at h
  ·split at h
   ·rename_i hk
    injection h with h;injection h with h1 h2;subst h1;subst h2
    refine⟨rfl,fun r=>⟨rfl,fun v hv=>?_⟩⟩
    rw [iq hk];exact hv
   ·cases h
  ·cases h
 | .s T none,b,c,xs,h,hc=>by
  simp only [TV.sU,Option.map_eq_some_iff,Prod.mk.injEq] at h
  obtain⟨c',hs,rfl,rfl⟩:=h
  exact⟨rfl,fun r=>⟨rfl,fun v hv=>lS _ _ _ hs hc v hv⟩⟩
 | .s T (some n),b,c,xs,h,hc=>by
  simp only [TV.sU] at h
  split at h
  ·split at h
   ·rename_i c' hs
    injection h with h;injection h with h1 h2;subst h1;subst h2
    refine⟨rfl,fun r=>⟨rfl,fun v hv=>?_⟩⟩
    have:=dx _ _ _ hs hc
    subst this
    exact hv
   ·cases h
  ·injection h with h;injection h with h1 h2;subst h1;subst h2
   refine⟨rfl,fun r=>⟨rfl,fun v hv=>?_⟩⟩
   simp only [af] at hv
   subst hv
   show af σ (.s T (some 0)) _
   simp only [af]
   exact⟨none,0,0,rfl,(fun z hz=>by injection hz),⟨Nat.le_refl _,by omega,fun h=>by cases h⟩,(fun _=>rfl),(fun a ha=>by cases ha)⟩
  ·cases h
 | .p T,b,c,xs,h,hc=>by
  simp only [TV.sU] at h
  split at h
  ·obtain⟨h1,h2⟩:=tu T _ c xs h hc
   refine⟨h1,fun r=>?_⟩
   obtain⟨h3,u,h4⟩:=h2 r
   refine⟨h3,fun v hv=>?_⟩
   rw [h4] at hv
   exact Zb hv
  ·obtain⟨h1,h2⟩:=tu T _ c xs h hc
   refine⟨h1,fun r=>?_⟩
   obtain⟨h3,u,h4⟩:=h2 r
   refine⟨h3,fun v hv=>?_⟩
   rw [h4] at hv
   exact Zb (Vb hv)
  ·cases h
 | .pb T,b,c,xs,h,hc=>by
  simp only [TV.sU] at h
  split at h
  ·obtain⟨h1,h2⟩:=fo T _ c xs h hc
   refine⟨h1,fun r=>?_⟩
   have e:TV.fill (.pb T) (xs++r)=(.pb (TV.fills T (xs++r)).1,(TV.fills T (xs++r)).2):=rfl
   rw [e,h2 r]
   exact⟨rfl,fun v hv=>hv⟩
  ·cases h
 | .np z T,b,c,xs,h,hc=>by
  have key:∀(U:List TV) (x1:Int) (c1:Cs) (n1:List Int),TV.mf T U=some (c1,n1)->aS.ok c1->(x1::n1).length=TV.cnt (.np z T)/\∀r,TV.fill (.np z T) (x1::n1++r)=(.np x1 U,r):=fun U x1 c1 n1 e1 k1=>by
   obtain⟨h1,h2⟩:=fo T U c1 n1 e1 k1
   refine⟨by show n1.length+1=TV.oD T+1;rw [h1],fun r=>?_⟩
   show(match TV.fills T (n1++r) with | (T,r)=>(TV.np x1 T,r))=_
   rw [h2 r]
  simp only [TV.sU] at h
  split at h
  ·split at h
   ·rename_i e1
    injection h with h;injection h with q1 q2;subst q1;subst q2
    obtain⟨h1,h2⟩:=key _ _ _ _ e1 hc
    exact⟨h1,fun r=>by rw [h2 r];exact⟨rfl,fun v hv=>hv⟩⟩
   ·cases h
  ·split at h
   ·rename_i e1
    injection h with h;injection h with q1 q2;subst q1;subst q2
    obtain⟨h1,h2⟩:=key _ 0 _ _ e1 hc
    refine⟨h1,fun r=>?_⟩
    rw [h2 r]
    refine⟨rfl,fun v hv=>?_⟩
    simp only [af] at hv ⊢
    exact .inl ⟨trivial,hv⟩
   ·cases h
  ·split at h
   ·rename_i e1
    injection h with h;injection h with q1 q2;subst q1;subst q2
    obtain⟨h1,h2⟩:=key _ 1 _ _ e1 hc
    refine⟨h1,fun r=>?_⟩
    rw [h2 r]
    refine⟨rfl,fun v hv=>?_⟩
    simp only [af] at hv ⊢
    exact .inr ⟨trivial,hv⟩
   ·cases h
  ·cases h
 | .oC T m,b,c,xs,h,hc=>by
  simp only [TV.sU] at h
  split at h
  ·split at h
   ·rename_i hm
    obtain⟨h1,h2⟩:=fo T _ c xs h hc
    refine⟨h1,fun r=>?_⟩
    have e:TV.fill (.oC T m) (xs++r)=(.oC (TV.fills T (xs++r)).1 m,(TV.fills T (xs++r)).2):=rfl
    rw [e,h2 r]
    refine⟨rfl,fun v hv=>?_⟩
    rw [Nat.eq_of_beq_eq_true hm];exact hv
   ·cases h
  ·cases h
 | .agg ae,b,c,xs,h,hc=>by
  simp only [TV.sU] at h
  split at h
  ·obtain⟨h1,h2⟩:=dH ae _ c xs h hc
   refine⟨h1,fun r=>⟨(h2 r).1,fun v hv=>?_⟩⟩
   simp only [af] at hv
   obtain⟨vs,e,hv⟩:=hv
   show af σ (.agg (TV.fills ae (xs++r)).1) v
   simp only [af]
   exact⟨vs,e,(h2 r).2 _ hv⟩
  ·cases h
 | .aF ae,b,c,xs,h,hc=>by
  simp only [TV.sU] at h
  split at h
  ·obtain⟨h1,h2⟩:=dH ae _ c xs h hc
   refine⟨h1,fun r=>⟨(h2 r).1,fun v hv=>?_⟩⟩
   simp only [af] at hv
   obtain⟨vs,e,hv⟩:=hv
   show af σ (.aF (TV.fills ae (xs++r)).1) v
   simp only [af]
   exact⟨vs,e,(h2 r).2 _ hv⟩
  ·cases h
 | .fn g fs cs,b,c,xs,h,hc=>by
  simp only [TV.sU] at h
  split at h
  ·split at h
   ·rename_i hg
    split at h
    ·rename_i c1 n1 c2 n2 e1 e2
     injection h with h;injection h with q1 q2;subst q1;subst q2
     obtain⟨k1,k2⟩:=aS.aU.1 hc
     obtain⟨h1,h2⟩:=dH fs _ c1 n1 e1 k1
     obtain⟨h3,h4⟩:=dH cs _ c2 n2 e2 k2
     refine⟨by rw [List.length_append,h1,h3];rfl,fun r=>?_⟩
     have f1:=h2 (n2++r)
     have f2:=h4 r
     have e:TV.fill (.fn g fs cs) (n1++n2++r)=(.fn g (TV.fills fs (n1++(n2++r))).1 (TV.fills cs (n2++r)).1,(TV.fills cs (n2++r)).2):=by
      rw [List.append_assoc]
      show(match TV.fills fs (n1++(n2++r)) with
       | (fs,r)=>(match TV.fills cs r with
        | (cs,r)=>(TV.fn g fs cs,r)))=_
      rw [show TV.fills fs (n1++(n2++r))=((TV.fills fs (n1++(n2++r))).1,n2++r) from Prod.ext rfl f1.1]
     rw [e]
     refine⟨f2.1,fun v hv=>?_⟩
     simp only [af] at hv ⊢
     obtain⟨vs,us,ev,q1,q2⟩:=hv
     exact⟨vs,us,by rw [Nat.eq_of_beq_eq_true hg];exact ev,f1.2 _ q1,f2.2 _ q2⟩
    ·cases h
   ·cases h
  ·cases h
 | .b _,b,c,xs,h,hc | .bp _,b,c,xs,h,hc | .f,b,c,xs,h,hc | .pn,b,c,xs,h,hc | .m _ _,b,c,xs,h,hc | .y _,b,c,xs,h,hc | .bD,b,c,xs,h,hc | .val _,b,c,xs,h,hc | .bg,b,c,xs,h,hc | .ow _,b,c,xs,h,hc | .aac _ _,b,c,xs,h,hc | .tab _ _ _,b,c,xs,h,hc | .rg _ _,b,c,xs,h,hc=>by
  simp only [TV.sU,Option.map_eq_some_iff,Prod.mk.injEq] at h
  obtain⟨c',hs,rfl,rfl⟩:=h
  exact⟨rfl,fun r=>⟨rfl,fun v hv=>lS _ _ _ hs hc v hv⟩⟩
theorem dH:∀(a b:List TV) (c:Cs) (xs:List Int),TV.oW a b=some (c,xs)->aS.ok c->xs.length=TV.oD a/\∀r,(TV.fills a (xs++r)).2=r/\∀v,ai σ b v->ai σ (TV.fills a (xs++r)).1 v
 | [],b,c,xs,h,hc=>by
  simp only [TV.oW] at h
  split at h
  ·injection h with h;injection h with h1 h2;subst h1;subst h2
   exact⟨rfl,fun r=>⟨rfl,fun v hv=>hv⟩⟩
  ·cases h
 | a::ae,b,c,xs,h,hc=>by
  simp only [TV.oW] at h
  split at h
  ·split at h
   ·rename_i c1 n1 c2 n2 e1 e2
    injection h with h;injection h with q1 q2;subst q1;subst q2
    obtain⟨k1,k2⟩:=aS.aU.1 hc
    obtain⟨h1,h2⟩:=jQ a _ c1 n1 e1 k1
    obtain⟨h3,h4⟩:=dH ae _ c2 n2 e2 k2
    refine⟨by rw [List.length_append,h1,h3];rfl,fun r=>?_⟩
    have f1:=h2 (n2++r)
    have f2:=h4 r
    have e:TV.fills (a::ae) (n1++n2++r)=((TV.fill a (n1++(n2++r))).1::(TV.fills ae (n2++r)).1,(TV.fills ae (n2++r)).2):=by
     rw [List.append_assoc]
     show(match TV.fill a (n1++(n2++r)) with
      | (a2,r)=>(match TV.fills ae r with
       | (ZQ,r2)=>(a2::ZQ,r2)))=_
     rw [show TV.fill a (n1++(n2++r))=((TV.fill a (n1++(n2++r))).1,n2++r) from Prod.ext rfl f1.1]
    rw [e]
    refine⟨f2.1,fun v hv=>?_⟩
    simp only [ai] at hv ⊢
    obtain⟨x,q,rfl,q1,q2⟩:=hv
    exact⟨x,q,rfl,f1.2 _ q1,f2.2 _ q2⟩
   ·cases h
  ·cases h
theorem tu:∀(a b:List TV) (c:Cs) (xs:List Int),TV.Kc a b=some (c,xs)->aS.ok c->xs.length=TV.oD a/\∀r,(TV.fills a (xs++r)).2=r/\∃u,b=(TV.fills a (xs++r)).1++u
 | [],b,c,xs,h,hc=>by
  simp only [TV.Kc] at h
  injection h with h;injection h with h1 h2;subst h1;subst h2
  exact⟨rfl,fun r=>⟨rfl,b,rfl⟩⟩
 | a::ae,b,c,xs,h,hc=>by
  simp only [TV.Kc] at h
  split at h
  ·split at h
   ·rename_i c1 n1 c2 n2 e1 e2
    injection h with h;injection h with q1 q2;subst q1;subst q2
    obtain⟨k1,k2⟩:=aS.aU.1 hc
    obtain⟨h1,h2⟩:=Dq a _ c1 n1 e1 k1
    obtain⟨h3,h4⟩:=tu ae _ c2 n2 e2 k2
    refine⟨by rw [List.length_append,h1,h3];rfl,fun r=>?_⟩
    obtain⟨f2,u,f3⟩:=h4 r
    have e:TV.fills (a::ae) (n1++n2++r)=((TV.fill a (n1++(n2++r))).1::(TV.fills ae (n2++r)).1,(TV.fills ae (n2++r)).2):=by
     rw [List.append_assoc]
     show(match TV.fill a (n1++(n2++r)) with
      | (a2,r)=>(match TV.fills ae r with
       | (ZQ,r2)=>(a2::ZQ,r2)))=_
     rw [h2 (n2++r)]
    rw [e,h2 (n2++r)]
    exact⟨f2,u,by rw [f3];rfl⟩
   ·cases h
  ·cases h
theorem Dq:∀(a b:TV) (c:Cs) (xs:List Int),TV.oZ a b=some (c,xs)->aS.ok c->xs.length=TV.cnt a/\∀r,TV.fill a (xs++r)=(b,r)
 | .i k none,b,c,xs,h,hc=>by
  simp only [TV.oZ,Option.map_eq_some_iff,Prod.mk.injEq] at h
  obtain⟨c',hs,rfl,rfl⟩:=h
  have:=same_eq _ _ _ hs hc
  subst this
  exact⟨rfl,fun r=>rfl⟩
 | .i k (some n),b,c,xs,h,hc=>by
  simp only [TV.oZ] at h
  split at h
  ·split at h
   ·rename_i hk
    injection h with h;injection h with h1 h2;subst h1;subst h2
    exact⟨rfl,fun r=>by rw [iq hk];rfl⟩
   ·cases h
  ·cases h
 | .s T none,b,c,xs,h,hc=>by
  simp only [TV.oZ,Option.map_eq_some_iff,Prod.mk.injEq] at h
  obtain⟨c',hs,rfl,rfl⟩:=h
  have:=same_eq _ _ _ hs hc
  subst this
  exact⟨rfl,fun r=>rfl⟩
 | .s T (some n),b,c,xs,h,hc=>by
  simp only [TV.oZ] at h
  split at h
  ·split at h
   ·rename_i c' hs
    injection h with h;injection h with h1 h2;subst h1;subst h2
    have:=dx _ _ _ hs hc
    subst this
    exact⟨rfl,fun r=>rfl⟩
   ·cases h
  ·cases h
 | .p T,b,c,xs,h,hc=>by
  simp only [TV.oZ] at h
  split at h
  ·obtain⟨h1,h2⟩:=fo T _ c xs h hc
   refine⟨h1,fun r=>?_⟩
   show(match TV.fills T (xs++r) with | (T,r)=>(TV.p T,r))=_
   rw [h2 r]
  ·cases h
 | .pb T,b,c,xs,h,hc=>by
  simp only [TV.oZ] at h
  split at h
  ·obtain⟨h1,h2⟩:=fo T _ c xs h hc
   refine⟨h1,fun r=>?_⟩
   show(match TV.fills T (xs++r) with | (T,r)=>(TV.pb T,r))=_
   rw [h2 r]
  ·cases h
 | .np z T,b,c,xs,h,hc=>by
  simp only [TV.oZ] at h
  split at h
  ·split at h
   ·rename_i c1 n1 e1
    injection h with h;injection h with q1 q2;subst q1;subst q2
    obtain⟨h1,h2⟩:=fo T _ c1 n1 e1 hc
    refine⟨by show n1.length+1=TV.oD T+1;rw [h1],fun r=>?_⟩
    show(match TV.fills T (n1++r) with | (T,r)=>(TV.np _ T,r))=_
    rw [h2 r]
   ·cases h
  ·cases h
 | .fn g fs cs,b,c,xs,h,hc=>by
  simp only [TV.oZ] at h
  split at h
  ·split at h
   ·rename_i hg
    split at h
    ·rename_i c1 n1 c2 n2 e1 e2
     injection h with h;injection h with q1 q2;subst q1;subst q2
     obtain⟨k1,k2⟩:=aS.aU.1 hc
     obtain⟨h1,h2⟩:=fo fs _ c1 n1 e1 k1
     obtain⟨h3,h4⟩:=fo cs _ c2 n2 e2 k2
     refine⟨by rw [List.length_append,h1,h3];rfl,fun r=>?_⟩
     rw [List.append_assoc]
     show(match TV.fills fs (n1++(n2++r)) with
      | (fs,r)=>(match TV.fills cs r with
       | (cs,r)=>(TV.fn g fs cs,r)))=_
     rw [h2 (n2++r)]
     simp only
     rw [h4 r,Nat.eq_of_beq_eq_true hg]
    ·cases h
   ·cases h
  ·cases h
 | .agg _,b,c,xs,h,hc | .aF _,b,c,xs,h,hc | .oC _ _,b,c,xs,h,hc=>by
  simp only [TV.oZ] at h
  cases h
 | .b _,b,c,xs,h,hc | .bp _,b,c,xs,h,hc | .f,b,c,xs,h,hc | .pn,b,c,xs,h,hc | .m _ _,b,c,xs,h,hc | .y _,b,c,xs,h,hc | .bD,b,c,xs,h,hc | .val _,b,c,xs,h,hc | .bg,b,c,xs,h,hc | .ow _,b,c,xs,h,hc | .aac _ _,b,c,xs,h,hc | .tab _ _ _,b,c,xs,h,hc | .rg _ _,b,c,xs,h,hc=>by
  simp only [TV.oZ,Option.map_eq_some_iff,Prod.mk.injEq] at h
  obtain⟨c',hs,rfl,rfl⟩:=h
  have:=same_eq _ _ _ hs hc
  subst this
  exact⟨rfl,fun r=>rfl⟩
theorem fo:∀(a b:List TV) (c:Cs) (xs:List Int),TV.mf a b=some (c,xs)->aS.ok c->xs.length=TV.oD a/\∀r,TV.fills a (xs++r)=(b,r)
 | [],b,c,xs,h,hc=>by
  simp only [TV.mf] at h
  split at h
  ·injection h with h;injection h with h1 h2;subst h1;subst h2
   exact⟨rfl,fun r=>rfl⟩
  ·cases h
 | a::ae,b,c,xs,h,hc=>by
  simp only [TV.mf] at h
  split at h
  ·split at h
   ·rename_i c1 n1 c2 n2 e1 e2
    injection h with h;injection h with q1 q2;subst q1;subst q2
    obtain⟨k1,k2⟩:=aS.aU.1 hc
    obtain⟨h1,h2⟩:=Dq a _ c1 n1 e1 k1
    obtain⟨h3,h4⟩:=fo ae _ c2 n2 e2 k2
    refine⟨by rw [List.length_append,h1,h3];rfl,fun r=>?_⟩
    rw [List.append_assoc]
    show(match TV.fill a (n1++(n2++r)) with
     | (a2,r)=>(match TV.fills ae r with
      | (ZQ,r2)=>(a2::ZQ,r2)))=_
    rw [h2 (n2++r)]
    simp only
    rw [h4 r]
   ·cases h
  ·cases h
end
end
structure Names (f:TV->(TV->Prop)->Prop) (U:TV->TV->Prop):Prop where
 iff:∀v k,f v k↔∀v',U v v'->k v'
 ne:∀v,∃v',U v v'
 rel:∀σ v x,af σ v x->∃v',U v v'/\af σ v' x
def U0 (v v':TV):Prop:=match v with
 | .i .i64 none=>∃n:Int,(-9223372036854775808<=n/\n<=9223372036854775807)/\v'= .i .i64 (some n)
 | .s T none=>∃n:Int,(0<=n/\n<=1000000000)/\v'= .s T (some n)
 | .rg q m=>∃n:Int,(0<=n/\n<=m)/\v'= .i q (some n)
 | v=>v'=v
theorem Ql:Names Ke U0:=by
 have Xi:∀{v:TV},(∀k,Ke v k=k v)->(∀v',U0 v v'=(v'=v))->(∀k,Ke v k↔∀v',U0 v v'->k v')/\(∃v',U0 v v')/\∀σ x,af σ v x->∃v',U0 v v'/\af σ v' x:=fun {v} h1 h2=>
  ⟨fun k=>by rw [h1];exact⟨fun h v' hv=>by rw [h2] at hv;subst hv;exact h,fun h=>h v (by rw [h2])⟩,⟨v,by rw [h2]⟩,fun σ x hx=>⟨v,by rw [h2],hx⟩⟩
 have key:∀v,(∀k,Ke v k↔∀v',U0 v v'->k v')/\(∃v',U0 v v')/\∀σ x,af σ v x->∃v',U0 v v'/\af σ v' x:=by
  intro v
  cases v with
  | i q x=>
   cases x with
   | some n=>exact Xi (fun k=>by cases q<;>rfl) (fun v'=>by cases q<;>rfl)
   | none=>
    cases q with
    | i64=>
     refine⟨fun k=>⟨fun h v' ⟨n,hn,e⟩=>by subst e;exact h n hn.1 hn.2,fun h n h1 h2=>h _ ⟨n,⟨h1,h2⟩,rfl⟩⟩,⟨_,0,by omega,rfl⟩,fun σ x hx=>?_⟩
     simp only [af] at hx
     obtain⟨n,rfl,hn⟩:=hx
     exact⟨_,⟨n,by simpa [IntKind.has,IntKind.min,IntKind.max,IntKind.signed,IntKind.bits] using hn,rfl⟩,by simp only [af]⟩
    | _=>exact Xi (fun k=>rfl) (fun v'=>rfl)
  | s T x=>
   cases x with
   | some n=>exact Xi (fun k=>rfl) (fun v'=>rfl)
   | none=>
    refine⟨fun k=>⟨fun h v' ⟨n,hn,e⟩=>by subst e;exact h n hn.1 hn.2,fun h n h1 h2=>h _ ⟨n,⟨h1,h2⟩,rfl⟩⟩,⟨_,0,by omega,rfl⟩,fun σ x hx=>?_⟩
    simp only [af] at hx
    obtain⟨A,k,C,rfl,h1,⟨h2,h4,h5⟩,h3⟩:=hx
    have h5:=h5 trivial
    refine⟨_,⟨(k:Int),by omega,rfl⟩,?_⟩
    simp only [af]
    exact⟨A,k,C,rfl,(fun z hz=>by injection hz),⟨h2,h4,fun h=>(by cases h)⟩,h3⟩
  | rg q m=>
   refine⟨fun k=>⟨fun h v' ⟨n,hn,e⟩=>by subst e;exact h n hn.1 hn.2,fun h n h1 h2=>h _ ⟨n,⟨h1,h2⟩,rfl⟩⟩,⟨_,0,⟨Int.le_refl _,Int.natCast_nonneg _⟩,rfl⟩,fun σ x hx=>?_⟩
   simp only [af] at hx
   obtain⟨n,rfl,h1,h2⟩:=hx
   exact⟨_,⟨n,⟨h1,h2⟩,rfl⟩,by simp only [af]⟩
  | _=>exact Xi (fun k=>rfl) (fun v'=>rfl)
 exact⟨fun v=>(key v).1,fun v=>(key v).2.1,fun σ v=>(key v).2.2 σ⟩
def UL (U:TV->TV->Prop):List TV->List TV->Prop
 | [],l=>l=[]
 | a::r,l=>∃b s,l=b::s/\U a b/\UL U r s
theorem o8 {f:TV->(TV->Prop)->Prop} {U:TV->TV->Prop} (h:Names f U):∀(l:List TV) (k:List TV->Prop),Ga f l k↔∀l',UL U l l'->k l'
 | [],k=>⟨fun h l' e=>by subst e;exact h,fun h=>h [] rfl⟩
 | a::l,k=>by
  show f a (fun a=>Ga f l fun r=>k (a::r))↔_
  rw [h.iff]
  constructor
  ·rintro q l' ⟨b,s,rfl,h1,h2⟩
   exact(o8 h l _).1 (q b h1) s h2
  ·exact fun q b hb=>(o8 h l _).2 fun s hs=>q _ ⟨b,s,rfl,hb,hs⟩
theorem Vg {f:TV->(TV->Prop)->Prop} {U:TV->TV->Prop} (h:Names f U):∀l:List TV,∃l',UL U l l'
 | []=>⟨[],rfl⟩
 | a::l=>by
  obtain⟨b,hb⟩:=h.ne a
  obtain⟨s,hs⟩:=Vg h l
  exact⟨_,b,s,rfl,hb,hs⟩
theorem LC {f:TV->(TV->Prop)->Prop} {U:TV->TV->Prop} (h:Names f U) {σ:TE}:∀(l:List TV) (vs:List Value),ai σ l vs->∃l',UL U l l'/\ai σ l' vs
 | [],vs,hv=>⟨[],rfl,hv⟩
 | a::l,vs,hv=>by
  simp only [ai] at hv
  obtain⟨x,q,rfl,h1,h2⟩:=hv
  obtain⟨b,hb,hr⟩:=h.rel σ a x h1
  obtain⟨s,hs,hq⟩:=LC h l q h2
  exact⟨_,⟨b,s,rfl,hb,hs⟩,x,q,rfl,hr,hq⟩
def UA (U:TV->TV->Prop) (v v':TV):Prop:=match v with
 | .agg cs=>∃ds,UL U cs ds/\v'= .agg ds
 | .aF cs=>∃ds,UL U cs ds/\v'= .aF ds
 | v=>U v v'
theorem Gm {f:TV->(TV->Prop)->Prop} {U:TV->TV->Prop} (h:Names f U):Names (NY f) (UA U):=by
 refine⟨fun v k=>?_,fun v=>?_,fun σ v x hx=>?_⟩
 ·cases v with
  | agg cs=>
   show Ga f cs (fun cs=>k (.agg cs))↔_
   rw [o8 h]
   exact⟨fun q v' ⟨ds,h1,e⟩=>by subst e;exact q ds h1,fun q ds hd=>q _ ⟨ds,hd,rfl⟩⟩
  | aF cs=>
   show Ga f cs (fun cs=>k (.aF cs))↔_
   rw [o8 h]
   exact⟨fun q v' ⟨ds,h1,e⟩=>by subst e;exact q ds h1,fun q ds hd=>q _ ⟨ds,hd,rfl⟩⟩
  | _=>exact h.iff _ k
 ·cases v with
  | agg cs=>obtain⟨ds,hd⟩:=Vg h cs;exact⟨_,ds,hd,rfl⟩
  | aF cs=>obtain⟨ds,hd⟩:=Vg h cs;exact⟨_,ds,hd,rfl⟩
  | _=>exact h.ne _
 ·cases v with
  | agg cs=>
   simp only [af] at hx
   obtain⟨vs,rfl,hv⟩:=hx
   obtain⟨ds,hd,hr⟩:=LC h cs _ hv
   exact⟨_,⟨ds,hd,rfl⟩,by simp only [af];exact⟨vs,rfl,hr⟩⟩
  | aF cs=>
   simp only [af] at hx
   obtain⟨vs,rfl,hv⟩:=hx
   obtain⟨ds,hd,hr⟩:=LC h cs _ hv
   exact⟨_,⟨ds,hd,rfl⟩,by simp only [af];exact⟨vs,rfl,hr⟩⟩
  | _=>exact h.rel σ _ x hx
def Wp:TV->TV->Prop:=UA (UA (UA U0))
theorem vL:Names Dj Wp:=Gm (Gm (Gm Ql))
theorem Kl {v v':TV} (h:Wp v v') (hv:(∃k,v= .i k none)\/(∃T,v= .s T none)\/(∃cs,v= .agg cs)\/(∃cs,v= .aF cs)\/∃k m,v= .rg k m):v'.plain=true/\∀e k,v'≠ .aac e k:=by
 rcases hv with⟨k,rfl⟩ | ⟨T,rfl⟩ | ⟨cs,rfl⟩ | ⟨cs,rfl⟩ | ⟨k,m,rfl⟩
 ·cases k with
  | i64=>obtain⟨n,_,rfl⟩:=h;exact⟨rfl,fun e k h=>by cases h⟩
  | _=>have h:v'=_:=h;subst h;exact⟨rfl,fun e k h=>by cases h⟩
 ·obtain⟨n,_,rfl⟩:=h;exact⟨rfl,fun e k h=>by cases h⟩
 ·obtain⟨ds,_,rfl⟩:=h;exact⟨rfl,fun e k h=>by cases h⟩
 ·obtain⟨ds,_,rfl⟩:=h;exact⟨rfl,fun e k h=>by cases h⟩
 ·obtain⟨n,_,rfl⟩:=h;exact⟨rfl,fun e k h=>by cases h⟩
end Go.TM
namespace Go.TM
open Go Go.RowKit Go.AM
mutual
theorem gK (k:TV->Prop):∀v:TV,fU v k=k v
 | .b _ | .bp _ | .i _ _ | .f | .pn | .y _ | .bD | .val _ | .bg=>rfl
 | .p T=>by show fJ T _=_;rw [cO]
 | .s T n=>by show fJ T _=_;rw [cO]
 | .m q v=>by show fU v _=_;rw [gK]
 | .fn g fs cs=>by show fJ fs (fun fs=>fJ cs _)=_;rw [cO,cO]
 | .agg cs=>by show fJ cs _=_;rw [cO]
 | .aF cs=>by show fJ cs _=_;rw [cO]
 | .ow cs=>by show fJ cs _=_;rw [cO]
 | .oC cs m=>by show fJ cs _=_;rw [cO]
 | .tab q ks vs=>by show fJ vs _=_;rw [cO]
 | .rg _ _=>rfl
 | .pb T=>by show fJ T _=_;rw [cO]
 | .np z T=>by show fJ T _=_;rw [cO]
 | .aac d o=>by cases o<;>rfl
theorem cO (k:List TV->Prop):∀l:List TV,fJ l k=k l
 | []=>rfl
 | a::l=>by show fU a (fun a=>fJ l fun r=>k (a::r))=_;rw [gK,cO]
end
theorem fV (k:List TV->Prop):∀l:List TV,lK l k=k l
 | []=>rfl
 | a::l=>by show fU a (fun a=>lK l fun r=>k (a::r))=_;rw [gK,fV]
theorem bH (v:TV):∀(l:List TV) (d:Nat) (k:List TV->Prop),dK v l d k=k (l.set d v)
 | [],d,k=>rfl
 | a::l,0,k=>rfl
 | a::l,d+1,k=>by
  show dK v l d (fun r=>k (a::r))=_
  rw [bH v l d];rfl
theorem Gn (d:Nat):∀(l:List TV) (k:List TV->Prop),RJ d l k=k (aV d l)
 | [],k=>rfl
 | a::l,k=>by
  show RJ d l _=_
  rw [Gn d l]
  cases a<;>first | rfl | skip
  rename_i e o
  show(match Nat.beq e d with | true=>k (.bg::aV d l) | false=>k (.aac e o::aV d l))=k (aV d (.aac e o::l))
  unfold aV
  simp only [List.map_cons]
  cases Nat.beq e d<;>rfl
theorem bV {S d:Nat} {K:Prop}:lL S d K↔Nat.testBit S d=true/\K:=by
 unfold lL
 cases Nat.testBit S d<;>simp
theorem fZ:∀{c:Cs} {K:Prop},PZ c K↔aS.ok c/\K
 | [],K=>⟨fun h=>⟨aS.ZE,h⟩,fun h=>h.2⟩
 | (a,b)::c,K=>by
  show(a<=b/\PZ c K)↔_
  rw [fZ,aS.aA]
  exact⟨fun⟨h1,h2,h3⟩=>⟨⟨h1,h2⟩,h3⟩,fun⟨⟨h1,h2⟩,h3⟩=>⟨h1,h2,h3⟩⟩
def Ag (S:Nat) (t t':List TV):Prop:=t'.length=t.length/\∀d,Nat.testBit S d=false->t'[d]?=t[d]?
theorem Ag.refl (S:Nat) (t:List TV):Ag S t t:=⟨rfl,fun _ _=>rfl⟩
theorem Ag.trans {S:Nat} {a b c:List TV} (h:Ag S a b) (k:Ag S b c):Ag S a c:=⟨k.1.trans h.1,fun d hd=>(k.2 d hd).trans (h.2 d hd)⟩
theorem Ag.set {S d:Nat} {t:List TV} {v:TV} (h:Nat.testBit S d=true):Ag S t (t.set d v):=⟨by simp,fun e he=>by
 rw [List.getElem?_set_ne]
 intro q;subst q;rw [h] at he;cases he⟩
theorem kD {S:Nat} {v:TV} {t:List TV} {d:Option Nat} {k:List TV->Prop}:Cb S v t d k->Ag S t (eG t d v)/\k (eG t d v):=by
 cases d with
 | none=>exact fun h=>⟨Ag.refl _ _,h⟩
 | some d=>
  intro h
  obtain⟨h1,h2⟩:=bV.1 h
  rw [gK,bH] at h2
  exact⟨Ag.set h1,h2⟩
def o9 (S:Nat) (t t':List TV):Prop:=t'.length=t.length/\∀d,Nat.testBit S d=false->t'[d]?=t[d]?\/∃e o,t[d]?=some (.aac e o)/\t'[d]?=some .bg
theorem Qm {S:Nat} {t:List TV} {d:Option Nat} {u:rf} {k:List TV->Prop} (h:Xb S t d u k):o9 S t (u.app t d)/\k (u.app t d):=by
 cases u with
 | val v=>obtain⟨h1,h2⟩:=kD h;exact⟨⟨h1.1,fun d hd=> .inl (h1.2 d hd)⟩,h2⟩
 | new cs=>
  cases d with
  | none=>exact h.elim
  | some d=>
   obtain⟨h1,h2⟩:=bV.1 h
   rw [fV,Gn,bH] at h2
   refine⟨⟨by simp [rf.app,aV],fun e he=>?_⟩,h2⟩
   have hne:d≠e:=by intro q;subst q;rw [h1] at he;cases he
   show((aV d t).set d (.ow cs))[e]?=t[e]?\/∃f o,t[e]?=some (.aac f o)/\((aV d t).set d (.ow cs))[e]?=some .bg
   rw [List.getElem?_set_ne hne]
   unfold aV
   rw [List.getElem?_map]
   cases q:t[e]? with
   | none=>exact .inl rfl
   | some v=>
    cases v<;>first | exact .inl rfl | skip
    rename_i f o
    simp only [Option.map_some]
    cases Nat.beq f d with
    | true=>exact .inr ⟨f,o,rfl,rfl⟩
    | false=>exact .inl rfl
 | st e cs=>
  obtain⟨h1,h2⟩:=bV.1 h
  rw [fV,bH] at h2
  exact⟨⟨(Ag.set (v:= .ow cs) (t:=t) h1).1,fun f hf=> .inl ((Ag.set h1).2 f hf)⟩,h2⟩
theorem o9.refl (S:Nat) (t:List TV):o9 S t t:=⟨rfl,fun _ _=> .inl rfl⟩
theorem o9.trans {S:Nat} {a b c:List TV} (h:o9 S a b) (k:o9 S b c):o9 S a c:=⟨k.1.trans h.1,fun d hd=>by
 rcases h.2 d hd with h1 | ⟨e,o,h1,h2⟩<;>rcases k.2 d hd with k1 | ⟨f,p,k1,k2⟩
 ·exact .inl (k1.trans h1)
 ·exact .inr ⟨f,p,by rw [<- h1];exact k1,k2⟩
 ·exact .inr ⟨e,o,h1,by rw [k1];exact h2⟩
 ·rw [h2] at k1;cases k1⟩
theorem Ag.LD {S:Nat} {t t':List TV} (h:Ag S t t'):o9 S t t':=⟨h.1,fun d hd=> .inl (h.2 d hd)⟩
section
variable {P:Program} {w0:World} {ro:Option Nat} {X:Nat->Option XK} {Y:iM} {SP:Spec} {IT:rq}
def r9 (P:Program) (w0:World) (SP:Spec):Prop:=∀f l K,SP f l K->Goes P f/\∀g,av P w0 f l g fun v g'=>K v/\g'=g
theorem aQ.mono {ops:List Oper} {Q Q':List TV->G->Prop} (hq:∀t g,Q t g->Q' t g):∀{l:List Oper} {t:List TV} {g:G},aQ P w0 ro ops Q l t g->aQ P w0 ro ops Q' l t g
 | [],t,g,h=>hq t g h
 | o::l,t,g,h=>by
  unfold aQ at h ⊢
  cases hw:dG ops t o with
  | yes=>simp only [hw] at h ⊢;exact h.mono fun t g h=>aQ.mono hq h
  | no=>simp only [hw] at h ⊢;exact aQ.mono hq h
  | may d want=>simp only [hw] at h ⊢;exact⟨fun hz=>(h.1 hz).mono fun t g h=>aQ.mono hq h,fun hz=>aQ.mono hq (h.2 hz)⟩
  | bad=>simp only [hw] at h
theorem Xj {a:TV} {σ:TE} {vs:Array Value} (h:ai σ [a] vs.toList):∃v,vs=#[v]/\af σ a v:=by
 simp only [ai] at h
 obtain⟨v,r,e,h1,h2⟩:=h
 subst h2
 exact⟨v,Array.toList_inj.1 (by simpa using e),h1⟩
theorem Vh {a b c:TV} {σ:TE} {vs:Array Value} (h:ai σ [a,b,c] vs.toList):∃x y z,vs=#[x,y,z]/\af σ a x/\af σ b y/\af σ c z:=by
 simp only [ai] at h
 obtain⟨x,_,e,h1,y,_,rfl,h2,z,_,rfl,h3,rfl⟩:=h
 exact⟨x,y,z,Array.toList_inj.1 (by simpa using e),h1,h2,h3⟩
def U64 (a:TV):Prop:=∃c,isU a=some c/\aS.ok c
theorem yx {a b:TV} {c:Int} {K:TV->Prop}:F9 a b c K↔U64 a/\U64 b/\0<=c/\c<=1/\K (.aF [.i .u64 none, .rg .u64 1]):=by
 unfold F9 U64
 cases ha:isU a with
 | none=>simp
 | some x=>cases hb:isU b with
  | none=>simp
  | some y=>simp [fZ]
theorem LF {a:TV} (h:U64 a) {σ:TE} {v:Value} (hv:af σ a v):∃n:Nat,v= .int .u64 n/\n < 18446744073709551616:=by
 obtain⟨c,h,hc⟩:=h
 unfold isU at h
 split at h
 ·simp only [af] at hv
  obtain⟨n,rfl,hn⟩:=hv
  have:0<=n/\n<=18446744073709551615:=by simpa [IntKind.has,IntKind.min,IntKind.max,IntKind.signed,IntKind.bits] using hn
  exact⟨n.toNat,by congr 1;omega,by omega⟩
 ·rename_i n
  injection h with h;subst h
  simp only [af] at hv;subst hv
  obtain⟨h1,h2⟩:=aS.aA.1 hc
  obtain⟨h2,_⟩:=aS.aA.1 h2
  simp only at h1 h2
  exact⟨n.toNat,by congr 1;omega,by omega⟩
 ·cases h
theorem Qn {x:XK} {args:List TV} {K:TV->Prop} (h:En x args K):∃v:TV,v.plain=true/\K v/\∀(σ:TE) (w:World) (vs:Array Value),ai σ args vs.toList->∃y,af σ v y/\((x.WE vs).run P w= .ok y w\/(x.WE vs).run P w= .ok y w.drew):=by
 have e0:aZ:=⟨fun _=>0,fun _=>0⟩
 unfold En at h
 split at h
 ·refine⟨_,rfl,h,fun σ w vs hv=>?_⟩
  obtain⟨u,rfl,hu⟩:=Xj hv
  obtain⟨n,rfl,hn⟩:=eU hu
  obtain⟨y,hy,hr⟩:=l5 (P:=P) (w:=w) (σ:=e0) (N:=0) (x:= .bits) (args:=[.f .top]) (v:= .i .u64 none) rfl (vs:=#[.float .f64 n]) (by exact AM.ai.one (fw hn))
  exact⟨y,by simp only [AM.af] at hy;simp only [af];exact hy,hr⟩
 ·refine⟨_,rfl,h,fun σ w vs hv=>?_⟩
  obtain⟨u,rfl,hu⟩:=Xj hv
  obtain⟨n,rfl,hn,_⟩:=gV hu
  obtain⟨y,hy,hr⟩:=l5 (P:=P) (w:=w) (σ:=e0) (N:=0) (x:= .ic) (args:=[.i .u64 none]) (v:= .f .top) rfl (vs:=#[.int .u64 n]) (by exact AM.ai.one (qA (hn rfl)))
  exact⟨y,by simp only [AM.af] at hy;simp only [af];exact hy,hr⟩
 ·obtain⟨q1,q2,h⟩:=h
  refine⟨_,rfl,h,fun σ w vs hv=>?_⟩
  obtain⟨u,rfl,hu⟩:=Xj hv
  simp only [af] at hu;subst hu
  obtain⟨y,hy,hr⟩:=l5 (P:=P) (w:=w) (σ:=e0) (N:=0) (x:= .ic) (args:=[.i .u64 none]) (v:= .f .top) rfl (vs:=#[.int .u64 _]) (by exact AM.ai.one (qA ⟨q1,q2⟩))
  exact⟨y,by simp only [AM.af] at hy;simp only [af];exact hy,hr⟩
 ·refine⟨_,rfl,h,fun σ w vs hv=>?_⟩
  obtain⟨u,rfl,hu⟩:=Xj hv
  obtain⟨n,rfl,hn⟩:=eU hu
  obtain⟨y,hy,hr⟩:=l5 (P:=P) (w:=w) (σ:=e0) (N:=0) (x:= .sqrt) (args:=[.f .top]) (v:= .f .top) rfl (vs:=#[.float .f64 n]) (by exact AM.ai.one (fw hn))
  exact⟨y,by simp only [AM.af] at hy;simp only [af];exact hy,hr⟩
 ·obtain⟨ha,hb,h0,h1,h⟩:=yx.1 h
  refine⟨_,rfl,h,fun σ w vs hv=>?_⟩
  obtain⟨x,y,z,rfl,hx,hy,hz⟩:=Vh hv
  obtain⟨x,rfl,hx⟩:=LF ha hx
  obtain⟨y,rfl,hy⟩:=LF hb hy
  simp only [af] at hz;subst hz
  obtain⟨c,rfl⟩:=Int.eq_ofNat_of_zero_le h0
  refine⟨_,?_, .inl (JI x y c (by omega) w)⟩
  simp only [af,ai]
  refine⟨_,rfl,_,_,rfl,⟨_,rfl,?_⟩,_,_,rfl,⟨_,rfl,by omega,?_⟩,rfl⟩
  ·simp [IntKind.has,IntKind.min,IntKind.max,IntKind.signed,IntKind.bits];omega
  ·omega
 ·obtain⟨ha,hb,h0,h1,h⟩:=yx.1 h
  refine⟨_,rfl,h,fun σ w vs hv=>?_⟩
  obtain⟨x,y,z,rfl,hx,hy,hz⟩:=Vh hv
  obtain⟨x,rfl,hx⟩:=LF ha hx
  obtain⟨y,rfl,hy⟩:=LF hb hy
  simp only [af] at hz;subst hz
  obtain⟨c,rfl⟩:=Int.eq_ofNat_of_zero_le h0
  refine⟨_,?_, .inl (JJ x y c (by omega) w)⟩
  simp only [af,ai]
  refine⟨_,rfl,_,_,rfl,⟨_,rfl,?_⟩,_,_,rfl,⟨_,rfl,by omega,?_⟩,rfl⟩
  ·simp [IntKind.has,IntKind.min,IntKind.max,IntKind.signed,IntKind.bits];omega
  ·split<;>omega
 ·exact h.elim
theorem iL.Qo {o:Oper} {t:List TV} {g:G} {K:List TV->G->Prop} (hd:∀c,o.op≠ .defer c) (h:∀(σ:TE) (a:Act) (w:World),Rel P w0 σ g t a.tmps w->∃v:TV,v.plain=true/\K (eG t o.dst v) g/\dO P w0 σ g w (execOp a.eval o) v):iL P w0 ro o t g K:=
 .of fun σ a w r next Q hn=>by
  obtain⟨v,hv,hk,ha⟩:=h σ a w r
  refine⟨fun _ _=>trivial,?_⟩
  rw [Oper.semAt_eq _ _ _ hd]
  obtain⟨x,w',σ',hrun,hp,hx⟩:=ha
  rw [hrun]
  rcases hx with⟨y,rfl,hr⟩ | ⟨rfl,rfl⟩
  ·exact hn _ _ σ' w' y hk (Step.post r hp hv hr o.dst)
  ·exact hn _ _ σ' w' undef hk (Step.post r hp rfl fI o.dst)
theorem LG {op:BinOp} {ty:TypeId} {v:TV} {y:Operand} {n:Int} (h:vI Y op ty v y=some n):op= .eql/\y= .const (.slice none 0 0)/\(∃k e,Y ty=some k/\k.d= .slice e)/\∃T,v= .s T (some n):=by
 unfold vI at h
 split at h
 ·split at h
  ·rename_i hy
   split at h
   ·rename_i k hk
    split at h
    ·rename_i e hd
     split at h
     ·injection h with h;subst h
      refine⟨rfl,?_,⟨k,e,hk,hd⟩,_,rfl⟩
      unfold UZ at hy
      split at hy
      ·rfl
      ·cases hy
     ·cases h
    ·cases h
   ·cases h
  ·cases h
 ·cases h
theorem Xk {σ:TE} {g:G} {w:World} (hY:ky P w0 Y) (r:TW P w0 σ g w) {ty:TypeId} {k:TK} {e:TypeId} (hk:Y ty=some k) (hd:k.d= .slice e) {T:List TV} {n:Int} {A:Value} (hA:af σ (.s T (some n)) A) (ox oy:Operand):
  ∃z:Bool,(z=true->n=0)/\(eqGuard .eql ty ox oy A (.slice none 0 0)).run P w= .ok () w/\ay P σ w (binOp .eql ty A (.slice none 0 0)) (.b (some z)):=by
 have hu:=hY.und hk
 rw [hd] at hu
 obtain⟨Q,k,C,rfl,hq,hC,hQ,_⟩:=jm hA
 cases Q with
 | none=>
  have:=hQ rfl
  have hk0:k=0:=by omega
  subst this;subst hk0
  exact⟨true,fun _=>by have:=hq n rfl;omega,jh (fun cs e=>by cases e) (by simp),ay.of (dV (bL fun D=>FI hu _ _ _ _ _ _) (by simp) (by simp) (by simp) (by simp)).1 (by simp [af])⟩
 | some q=>exact⟨false,(fun h=>by cases h),jh (fun cs e=>by cases e) (by simp),ay.of (dV (bL fun D=>PH hu _ _ _ _ _ _) (by simp) (by simp) (by simp) (by simp)).1 (by simp [af])⟩
theorem Xl {σ:TE} {w:World} {op:BinOp} {x y:TV} {k:IntKind} {c:Cs} {hi:Int} {oy:Operand} (h:nA op x y oy=some (k,c,hi)) (hc:aS.ok c) {A B:Value} (hA:af σ x A) (hB:af σ y B) (t:TypeId):
  ∃r:Int,0<=r/\r<=hi/\ay P σ w (binOp op t A B) (.i k (some r))/\(∀cs,A≠ .agg cs)/\A≠ .nilIface:=by
 unfold nA at h
 split at h
 ·split at h
  ·rename_i k1 z k2 m
   split at h
   ·rename_i hk
    obtain rfl:=iq hk
    simp only [Option.some.injEq,Prod.mk.injEq] at h
    obtain⟨rfl,rfl,rfl⟩:=h
    obtain⟨h0,h1⟩:=aS.aA.1 hc
    simp only at h0
    obtain⟨h2,h3⟩:=fA h1
    obtain⟨a,rfl,_⟩:=gV hA
    simp only [af] at hB
    subst hB
    have hle:((BitVec.ofInt k1.bits a&&& BitVec.ofInt k1.bits m).toNat:Int)<=m:=by
     have e1:(BitVec.ofInt k1.bits a&&& BitVec.ofInt k1.bits m).toNat<=(BitVec.ofInt k1.bits m).toNat:=by
      rw [BitVec.toNat_and];exact Nat.and_le_right
     have e2:((BitVec.ofInt k1.bits m).toNat:Int)<=m:=by
      rw [BitVec.toNat_ofInt]
      cases k1<;>simp only [IntKind.bits]<;>omega
     omega
    refine⟨_,by omega,hle,ay.of (x:= .int k1 (k1.wrap ((BitVec.ofInt k1.bits a&&& BitVec.ofInt k1.bits m).toNat:Int))) (by simp [binOp,Op.intBits]) ?_,by simp,by simp⟩
    rw [jA (by cases k1<;>simp [IntKind.min,IntKind.signed,IntKind.bits] at*<;>omega) (by omega)]
    simp only [af]
   ·cases h
  ·cases h
 ·split at h
  rotate_left
  ·cases h
  split at h
  ·rename_i q n
   split at h
   ·rename_i hn
    simp only [Option.some.injEq,Prod.mk.injEq] at h
    obtain⟨rfl,rfl,rfl⟩:=h
    obtain⟨a,rfl,ha,_⟩:=gV hA
    have ha:0<=a/\a<=18446744073709551615:=by simpa [IntKind.has,IntKind.min,IntKind.max,IntKind.signed,IntKind.bits] using ha rfl
    simp only [af] at hB
    subst hB
    have hn:=Nat.le_of_ble_eq_true hn
    have hmin:min n 64=n:=Nat.min_eq_left hn
    obtain⟨b,rfl⟩:∃b:Nat,a=b:=⟨a.toNat,by omega⟩
    have e:(b:Int).fdiv (2 ^ n)=((b / 2 ^ n:Nat):Int):=by
     rw [Int.fdiv_eq_ediv_of_nonneg _ (by exact Int.le_of_lt (Int.pow_pos (by omega)))]
     simp
    have hneg:¬((n:Int) < 0):=by omega
    refine⟨((b / 2 ^ n:Nat):Int),Int.natCast_nonneg _,?_,ay.of (x:= .int .u64 ((b:Int).fdiv (2 ^ n))) (by simp [binOp,Op.shift,IntKind.bits,hmin,hneg]) (by rw [e];simp only [af]),by simp,by simp⟩
    have:b / 2 ^ n<=18446744073709551615 / 2 ^ n:=Nat.div_le_div_right (by omega)
    exact Int.ofNat_le.2 this
   ·cases h
  ·cases h
 ·cases h
theorem Gp {σ:TE} {a:TV} {v:Value} {p:Prop} (h:Xa a v=some p) {X:Value} (hx:af σ a X):p↔X=v:=by
 unfold Xa at h
 split at h
 ·split at h
  ·rename_i hk
   obtain rfl:=iq hk
   injection h with h;subst h
   simp only [af] at hx;subst hx
   simp
  ·cases h
 ·cases h
theorem Dr {σ:TE}:∀{l:List TV} {r:List Value} {p:Prop},NQ l r=some p->∀{X:List Value},ai σ l X->(p↔X=r)
 | [],[],p,h,X,hx=>by simp only [NQ,Option.some.injEq] at h;subst h;simp only [ai] at hx;subst hx;simp
 | [],_::_,p,h,X,hx=>by cases h
 | _::_,[],p,h,X,hx=>by cases h
 | a::l,v::r,p,h,X,hx=>by
  simp only [NQ] at h
  split at h
  ·rename_i p1 p2 h1 h2
   injection h with h;subst h
   simp only [ai] at hx
   obtain⟨x,q,rfl,k1,k2⟩:=hx
   rw [Gp h1 k1,Dr h2 k2]
   simp
  ·cases h
theorem Ol {σ:TE} {x:TV} {v:Value} {p:Prop} (h:NR x v=some p) {X:Value} (hx:af σ x X):p↔X=v:=by
 unfold NR at h
 split at h
 ·exact Gp h hx
 ·split at h
  ·rename_i l vs
   simp only [af] at hx
   obtain⟨us,rfl,hl⟩:=hx
   rw [Dr h hl]
   constructor
   ·intro q;rw [Array.toList_inj.1 q]
   ·intro q;injection q with q;rw [q]
  ·cases h
 ·cases h
theorem Qp {Y:iM} {ty:TypeId} {m:TV} {ks:List Value} {vs:List TV} (h:Kb Y ty m=some (ks,vs)):∃k kt e k',Y ty=some k/\k.d= .map kt e/\Y e=some k'/\m= .tab kt ks vs:=by
 unfold Kb at h
 split at h
 ·rename_i k hk
  split at h
  ·rename_i kt e hd
   split at h
   ·rename_i Ye ks' vs'
    split at h
    ·rename_i hq
     split at h
     ·rename_i k' hk'
      simp only [Option.some.injEq,Prod.mk.injEq] at h
      obtain⟨rfl,rfl⟩:=h
      exact⟨k,kt,e,k',hk,hd,hk',by rw [Nat.eq_of_beq_eq_true hq]⟩
     ·cases h
    ·cases h
   ·cases h
  ·cases h
 ·cases h
def ZX (x:TV):List Value->List TV->Prop
 | [],_=>False
 | k::ks,vs=>match vs with
  | []=>False
  | _::vs=>match NR x k with
   | some p=>p\/ZX x ks vs
   | none=>False
theorem Gq {σ:TE} {E:List MapEntry} {ok:Bool} {x:TV} {K:TV->Prop} {X:Value} (hx:af σ x X):∀{ks:List Value} {vs:List TV},Qb ok x K ks vs->PX σ E ks vs->∃a,K (bif ok then .aF [a, .b (some true)] else a)/\(∃e∈E,e.key=X)/\∀e∈E,e.key=X->af σ a e.val
 | [],vs,h,_=>h.elim
 | k::ks,[],h,_=>h.elim
 | k::ks,a::vs,h,hr=>by
  simp only [Qb] at h
  split at h
  ·rename_i p hp
   by_cases hq:p
   ·obtain rfl:=(Ol hp hx).1 hq
    exact⟨a,h.1 hq,hr.1,hr.2.1⟩
   ·exact Gq hx (h.2 hq) hr.2.2
  ·exact h.elim
theorem Qq {P:Program} {kt:TypeId} {σ:TE} {E:List MapEntry} {X:Value} (h:∃e∈E,e.key=X) (hE:∀e∈E,AM.oK P kt e.key):AM.oK P kt X:=by
 obtain⟨e,he,rfl⟩:=h
 exact hE e he
theorem Cg {an:Nat->Option (List TV)} {S:Nat} (hX:∀f x,X f=some x->C8 P f x) (hY:ky P w0 Y) (hSP:r9 P w0 SP) {o:Oper} {t:List TV} {K:List TV->Prop} (h:ZR X Y SP an S o t K) (g:G):iL P w0 ro o t g fun t' g'=>K t'/\o9 S t t'/\g'=g:=by
 have gen:SN S t o.dst K (top Y an t o)->iL P w0 ro o t g fun t' g'=>K t'/\o9 S t t'/\g'=g:=fun h=>by
  unfold SN at h
  split at h
  ·rename_i c u hu
   obtain⟨hc,hk⟩:=fZ.1 h
   obtain⟨h1,h2⟩:=Qm hk
   exact Kk hY hu hc ⟨h2,h1,rfl⟩
  ·exact h.elim
 unfold ZR at h
 split at h
 ·rename_i f args ts ho
  unfold NW at h
  split at h
  ·rename_i q fs cs hf
   split at h
   ·rename_i x hx
    obtain⟨v,hv,hk,hrun⟩:=Qn (P:=P) h
    obtain⟨h1,h2⟩:=kD hk
    have hvp:v.zL=v:=by cases v<;>first | rfl | cases hv
    rw [hvp] at h1 h2
    exact iL.ext ho hf (hX q x hx) hrun hv ⟨h2,h1.LD,rfl⟩
   ·rw [fV] at h
    obtain⟨hgo,hc⟩:=hSP _ _ _ h
    exact iL.call ho hf hgo (hc g) fun v g' ⟨hk,hg⟩=>by
     obtain⟨h1,h2⟩:=kD hk
     exact⟨h2,h1.LD,hg⟩
  ·exact h.elim
 ·rename_i op ty x y lz ho
  split at h
  ·rename_i n hn
   obtain⟨rfl,rfl,⟨k,e,hk,hd⟩,T,hT⟩:=LG hn
   refine iL.Qo (fun c q=>by rw [ho] at q;cases q) fun σ a w r=>?_
   have hA:=aC r.tl x
   rw [hT] at hA
   obtain⟨z,hz,hg,PQ⟩:=Xk hY r.tw hk hd hA x (.const (.slice none 0 0))
   have hgo:∀b:Bool,Cb S (.b (some b)) t o.dst K->K (eG t o.dst (.b (some b)))/\o9 S t (eG t o.dst (.b (some b)))/\g=g:=fun b hb=>by
    obtain⟨h1,h2⟩:=kD hb
    exact⟨h2,h1.LD,rfl⟩
   refine⟨.b (some z),rfl,?_,(ay.ans r.tw PQ).to (by have e0:a.eval (.const (.slice none 0 0))= .slice none 0 0:=rfl;simp [execOp,ho,e0,hg])⟩
   cases z with
   | true=>exact hgo true (h.1 (hz rfl))
   | false=>exact hgo false h.2
  ·split at h
   ·rename_i k c hi hr
    obtain⟨hc,h⟩:=fZ.1 h
    refine iL.Qo (fun c q=>by rw [ho] at q;cases q) fun σ a w r=>?_
    obtain⟨q,h1,h2,PQ,n1,n2⟩:=Xl (P:=P) (w:=w) hr hc (aC r.tl x) (aC r.tl y) ty
    have hg:=jh (P:=P) (w:=w) (op:=op) (t:=ty) (x:=x) (y:=y) (X:=a.eval x) (Y:=a.eval y) (fun cs e=>absurd e (n1 cs)) n2
    obtain⟨k1,k2⟩:=kD (h q h1 h2)
    exact⟨.i k (some q),rfl,⟨k2,k1.LD,rfl⟩,(ay.ans r.tw PQ).to (by simp [execOp,ho,hg])⟩
   ·exact gen h
 ·rename_i ty m x ok ho
  split at h
  ·rename_i ks vs htab
   obtain⟨k,kt,e,k',hk,hd,hk',hm⟩:=Qp htab
   refine iL.Qo (fun c q=>by rw [ho] at q;cases q) fun σ a w r=>?_
   have hM:=aC r.tl m
   rw [hm] at hM
   simp only [af] at hM
   obtain⟨b,hb,hσ⟩:=hM
   obtain⟨O,hO,E,clk,rfl,hE,hT⟩:=r.tw.blk _ _ hσ
   have hu:=hY.und hk
   rw [hd] at hu
   obtain⟨v,hv,hex,hall⟩:=Gq (aC r.tl x) h hT
   have hK:=Qq (σ:=σ) hex hE
   obtain⟨i,z,hi,_,_,hz,_⟩:=hY.info hk'
   obtain⟨k1,k2⟩:=kD hv
   rcases Gj (w:=w) hu hO hE hK (fun w=>lH hi hz w) ok with⟨en,he,hek,hrun⟩ | ⟨hno,_⟩
   ·have hr:=hall en he hek
    refine⟨_,lT _,⟨k2,k1.LD,rfl⟩,dO.val r.tw (x:=if ok then .tuple #[en.val, .bool true] else en.val) (by cases ok<;>simp [execOp,ho,hb,hrun]) ?_⟩
    refine lJ ?_
    cases ok
    ·exact hr
    ·simp [af,ai,hr]
   ·obtain⟨e,he,hek⟩:=hex
    exact absurd hek (hno e he)
  ·exact gen h
 ·exact gen h
theorem iL.Ch {o:Oper} {t:List TV} {g:G} {K1 K:List TV->G->Prop} (h:iL P w0 ro o t g K1) (hk:∀t' g' σ tm w,K1 t' g'->Rel P w0 σ g' t' tm w->∃t'',K t'' g'/\Step P w0 σ g' t' tm w σ g' t'' tm w):iL P w0 ro o t g K:=
 .of fun σ a w r next Q hn=>h.get σ a w r next Q fun t' g' σ' w' x h1 hs=>by
  obtain⟨t'',h2,s2⟩:=hk t' g' σ' _ w' h1 hs.rel
  exact hn t'' g' σ' w' x h2 (hs.trans s2)
theorem Ci {S:Nat} {Gs:List Nat} {d:Option Nat} {t:List TV} {K:List TV->Prop} {σ:TE} {g:G} {tm:Array Value} {w:World} (h:gD S Gs d t K) (r:Rel P w0 σ g t tm w):∃t',K t'/\Ag S t t'/\Step P w0 σ g t tm w σ g t' tm w:=by
 cases d with
 | none=>exact⟨t,h,Ag.refl _ _,Step.refl r⟩
 | some d=>
  have same:K t->∃t',K t'/\Ag S t t'/\Step P w0 σ g t tm w σ g t' tm w:=fun h=>⟨t,h,Ag.refl _ _,Step.refl r⟩
  have get:∀{v:TV},slot t d=v->v≠ .bg->∃x,tm[d]?=some x/\af σ v x:=fun {v} hs hv=>by
   obtain⟨x,hx,hr⟩:=r.tl.get (dL hs hv)
   exact⟨x,by simpa using hx,hr⟩
  have put:∀{v:TV} {x:Value},Nat.testBit S d=true->tm[d]?=some x->v.plain=true->af σ v x->K (t.set d v)->∃t',K t'/\Ag S t t'/\Step P w0 σ g t tm w σ g t' tm w:=fun hb hx hp hr hk=>⟨_,hk,Ag.set hb,Step.same r hx hp hr⟩
  have opened:∀{v:TV},slot t d=v->v≠ .bg->((∃k,v= .i k none)\/(∃T,v= .s T none)\/(∃cs,v= .agg cs)\/(∃cs,v= .aF cs)\/∃k m,v= .rg k m)->lL S d (Dj v fun v=>fU v fun v=>dK v t d K)->∃t',K t'/\Ag S t t'/\Step P w0 σ g t tm w σ g t' tm w:=fun {v} hs hv hsh h=>by
   obtain⟨hb,h⟩:=bV.1 h
   obtain⟨x,hx,hr⟩:=get hs hv
   obtain⟨v',hu,hr'⟩:=vL.rel σ v x hr
   have hk:=(vL.iff v _).1 h v' hu
   rw [gK,bH] at hk
   exact put hb hx (Kl hu hsh).1 hr' hk
  unfold gD at h
  simp only at h
  split at h
  ·rename_i hs
   split at h
   ·obtain⟨hb,h⟩:=bV.1 h
    obtain⟨v,hx,hr⟩:=get hs (by simp)
    simp only [af] at hr
    obtain⟨x,rfl⟩:=hr
    rw [bH,bH] at h
    cases x with
    | true=>exact put hb hx rfl (by simp only [af]) h.1
    | false=>exact put hb hx rfl (by simp only [af]) h.2
   ·exact same h
  ·rename_i q hs
   split at h
   ·obtain⟨hb,h⟩:=bV.1 h
    obtain⟨v,hx,hr⟩:=get hs (by simp)
    simp only [af] at hr
    obtain⟨x,rfl,hp⟩:=hr
    simp only [bH] at h
    cases x with
    | true=>exact put hb hx rfl (by simp only [af]) (h.1 (hp.1 rfl))
    | false=>exact put hb hx rfl (by simp only [af]) (h.2 fun q=>by have:=hp.2 q;cases this)
   ·exact same h
  ·rename_i k hs;exact opened hs (by simp) (.inl ⟨_,rfl⟩) h
  ·rename_i T hs;exact opened hs (by simp) (.inr (.inl ⟨_,rfl⟩)) h
  ·rename_i q m hs;exact opened hs (by simp) (.inr (.inr (.inr (.inr ⟨_,_,rfl⟩)))) h
  ·rename_i cs hs;exact opened hs (by simp) (.inr (.inr (.inl ⟨_,rfl⟩))) h
  ·rename_i cs hs;exact opened hs (by simp) (.inr (.inr (.inr (.inl ⟨_,rfl⟩)))) h
  ·exact same h
theorem gm {an:Nat->Option (List TV)} {S:Nat} (hX:∀f x,X f=some x->C8 P f x) (hY:ky P w0 Y) (hSP:r9 P w0 SP) {ops:List Oper} {Q:List TV->Prop} {g:G} {t0:List TV}:∀{l:List Oper} {t:List TV},o9 S t0 t->qJ X Y SP an S ops Q l t->aQ P w0 ro ops (fun t' g'=>Q t'/\o9 S t0 t'/\g'=g) l t g
 | [],t,ha,h=>⟨h,ha,rfl⟩
 | o::l,t,ha,h=>by
  unfold qJ at h
  unfold aQ
  cases hw:dG ops t o with
  | yes=>
   simp only [hw] at h ⊢
   refine(Cg hX hY hSP h g).Ch fun t' g' σ tm w ⟨h1,h2,h3⟩ r=>?_
   subst h3
   obtain⟨t2,k1,k2,k3⟩:=Ci h1 r
   exact⟨t2,gm hX hY hSP ((ha.trans h2).trans k2.LD) k1,k3⟩
  | no=>
   simp only [hw] at h ⊢
   obtain⟨h1,h2⟩:=kD h
   exact gm hX hY hSP (ha.trans h1.LD) h2
  | may d want=>
   simp only [hw] at h ⊢
   refine⟨fun hz=>?_,fun hz=>?_⟩
   ·obtain⟨q1,q2⟩:=bV.1 (h.1 hz)
    rw [bH] at q2
    refine(Cg hX hY hSP q2 g).Ch fun t' g' σ tm w ⟨h1,h2,h3⟩ r=>?_
    subst h3
    obtain⟨t2,k1,k2,k3⟩:=Ci h1 r
    exact⟨t2,gm hX hY hSP (((ha.trans (Ag.set q1).LD).trans h2).trans k2.LD) k1,k3⟩
   ·obtain⟨q1,q2⟩:=bV.1 (h.2 hz)
    rw [bH] at q2
    obtain⟨h1,h2⟩:=kD q2
    exact gm hX hY hSP ((ha.trans (Ag.set q1).LD).trans h1.LD) h2
  | bad=>simp only [hw] at h
end
end Go.TM
namespace Go.TM
open Go Go.RowKit Go.AM
section
variable {P:Program} {w0:World} {ro:Option Nat}
def Fs (P:Program) (w0:World) (t t':List TV):Prop:=∀σ g tm w,Rel P w0 σ g t tm w->∃σ',Step P w0 σ g t tm w σ' g t' tm w
theorem Fs.refl (t:List TV):Fs P w0 t t:=fun σ g tm w r=>⟨σ,Step.refl r⟩
theorem Fs.trans {a b c:List TV} (h:Fs P w0 a b) (k:Fs P w0 b c):Fs P w0 a c:=fun σ g tm w r=>by
 obtain⟨σ1,s1⟩:=h σ g tm w r
 obtain⟨σ2,s2⟩:=k σ1 g tm w s1.rel
 exact⟨σ2,s1.trans s2⟩
theorem TA.jo {c:Code} {Q:Exit->St->Prop} {t t':List TV} {d:List Nat} {g:G} (h:Fs P w0 t t') (k:TA P w0 ro c Q ⟨t',d,g⟩):TA P w0 ro c Q ⟨t,d,g⟩:= .of fun σ a w m=>by
 obtain⟨σ1,s1⟩:=h σ g a.tmps w m.rel
 exact TA.behind k ⟨s1,m.d⟩
def Wk (v v':TV):Prop:=(v'.plain=true/\∀σ x,af σ v.zL x->af σ v' x)\/∃cs T,v= .ow cs/\v'= .ow T/\∀σ vs,ai σ cs vs->ai σ T vs
theorem Wk.bg (v:TV):Wk v .bg:= .inl ⟨rfl,fun σ x _=>by simp only [af]⟩
theorem Wk.refl {v:TV} (h:∀e o,v≠ .aac e o):Wk v v:=by
 cases v<;>first | exact .inl ⟨rfl,fun σ x h=>h⟩ | exact .inr ⟨_,_,rfl,rfl,fun σ vs h=>h⟩ | exact absurd rfl (h _ _)
structure Ja (t t':List TV):Prop where
 len:t'.length=t.length
 get:∀(d:Nat) (v':TV),t'[d]?=some v'->∃v,t[d]?=some v/\Wk v v'
def Cj (t:List TV):Prop:=∀(d e o:Nat),t[d]?≠some (.aac e o)
theorem Ja.refl {t:List TV} (h:Cj t):Ja t t:=⟨rfl,fun d v hv=>⟨v,hv,Wk.refl fun e o q=>h d e o (by rw [hv,q])⟩⟩
theorem Ja.set {t s:List TV} (h:Ja t s) {d:Nat} {u:TV} (hu:∀v,t[d]?=some v->Wk v u):Ja t (s.set d u):=by
 refine⟨by rw [List.length_set];exact h.len,fun e v' he=>?_⟩
 rcases aK he with⟨rfl,q⟩ | ⟨_,he⟩
 ·subst q
  have hl:=(List.getElem?_eq_some_iff.1 he).1
  rw [List.length_set,h.len] at hl
  exact⟨_,List.getElem?_eq_getElem hl,hu _ (List.getElem?_eq_getElem hl)⟩
 ·exact h.get e v' he
theorem Ja.jo {t t':List TV} (h:Ja t t'):Fs P w0 t t':=fun σ g tm w r=>by
 have how:∀{d:Nat} {T:List TV},t'[d]?=some (.ow T)->∃cs,t[d]?=some (.ow cs)/\∀σ vs,ai σ cs vs->ai σ T vs:=fun {d T} hd=>by
  obtain⟨v,hv,hw⟩:=h.get d _ hd
  rcases hw with⟨hp,_⟩ | ⟨cs,T',e1,e2,e3⟩
  ·cases hp
  ·injection e2 with e2
   subst e1;subst e2
   exact⟨cs,hv,e3⟩
 refine⟨σ,⟨⟨?_,⟨fun d T hd=>?_,fun d e T T' hd he hr=>?_,fun e d o T he hd=>?_⟩,r.tw⟩, .refl _,Nat.le_refl _,fun q hq h1 h2 h3=>⟨rfl,h1,h2,fun⟨d,T,hd,hr⟩=>?_⟩⟩⟩
 ·refine ai.of (by rw [h.len];exact r.tl.length) fun i a v ha hv=>?_
  obtain⟨u,hu,hw⟩:=h.get i a ha
  obtain⟨v',hv',hr⟩:=r.tl.get hu
  rw [hv] at hv'
  injection hv' with hv';subst hv'
  rcases hw with⟨_,hk⟩ | ⟨cs,T,_,rfl,_⟩
  ·exact hk σ v (lJ hr)
  ·simp only [af]
 ·obtain⟨cs,hcs,hk⟩:=how hd
  obtain⟨b,q1,q2,q3,q4,C,e,q5,q6⟩:=r.own.ow d cs hcs
  exact⟨b,q1,q2,q3,q4,C,e,q5,hk _ _ q6⟩
 ·obtain⟨cs,hcs,_⟩:=how hd
  obtain⟨cs',hcs',_⟩:=how he
  exact r.own.inj d e cs cs' hcs hcs' hr
 ·obtain⟨v,hv,hw⟩:=h.get e _ he
  rcases hw with⟨hp,_⟩ | ⟨_,_,_,q,_⟩
  ·cases hp
  ·cases q
 ·obtain⟨cs,hcs,_⟩:=how hd
  exact h3 ⟨d,cs,hcs,hr⟩
theorem Fs.freeze {t:List TV} {d:Nat} {cs T:List TV} (hd:t[d]?=some (.ow cs)) (hat:TV.atoms cs=true) (hne:0 < cs.length) (hT:∀σ vs,ai σ cs vs->ai σ T vs) (hl:T.length=cs.length):Fs P w0 t (t.set d (.p T)):=fun σ g tm w r=>by
 obtain⟨b,h1,h2,h3,h4,C,e,h5,h6⟩:=r.own.ow d cs hd
 have hx:Ext σ (σ.put b (.row T 1)):=Ext.put h2
 have hC:C.size=T.length:=by have:=h6.length;simp at this;omega
 have hb:=bP h1
 have htw:TW P w0 (σ.put b (.row T 1)) g w:=r.tw.type b (.row T 1) h4 h2 h3 h5 ⟨C,e,rfl,by omega,fB h6 hat,fun i a hi ha=>by
  rw [Nat.mod_eq_of_lt (by omega)] at ha
  obtain⟨v,hv,hr⟩:=(hT σ _ h6).get ha
  exact⟨v,by simpa using hv,hr.ext hx⟩⟩
 refine⟨_,⟨⟨?_,⟨fun f c hf=>?_,fun f k c c' hf hk hr=>?_,fun f k o c hf hk=>?_⟩,htw⟩,hx,Nat.le_refl _,fun q hq q1 q2 q3=>⟨rfl,?_,q2,fun⟨f,c,hf,hr⟩=>?_⟩⟩⟩
 ·refine NM (ai.ext hx _ _ r.tl) h1 ?_
  simp only [af]
  exact⟨b,0,T,1,0,0,[],rfl,by unfold TE.put;rw [if_pos rfl],by simp,by omega,by omega,by simp⟩
 ·rcases aK hf with⟨_,x⟩ | ⟨x,hf⟩
  ·cases x
  ·obtain⟨b',k1,k2,k3,k4,C',e',k5,k6⟩:=r.own.ow f c hf
   refine⟨b',k1,?_,k3,k4,C',e',k5,ai.ext hx _ _ k6⟩
   unfold TE.put
   rw [if_neg]
   ·exact k2
   ·intro q;subst q
    exact x (r.own.inj f d c cs hf hd (by rw [hb,bP k1]))
 ·rcases aK hf with⟨_,x⟩ | ⟨x,hf⟩
  ·cases x
  ·rcases aK hk with⟨_,y⟩ | ⟨y,hk⟩
   ·cases y
   ·exact r.own.inj f k c c' hf hk hr
 ·rcases aK hf with⟨_,x⟩ | ⟨x,hf⟩
  ·cases x
  ·rcases aK hk with⟨_,y⟩ | ⟨y,hk⟩
   ·cases y
   ·exact r.own.at_ f k o c hf hk
 ·unfold TE.put
  rw [if_neg]
  ·exact q1
  ·intro x;exact q3 ⟨d,cs,hd,by rw [hb];exact x.symm⟩
 ·rcases aK hf with⟨_,x⟩ | ⟨x,hf⟩
  ·cases x
  ·exact q3 ⟨f,c,hf,hr⟩
theorem Gr:∀(a b:List TV) (c:Cs),TV.kL a b=some c->a.length=b.length
 | [],b,c,h=>by cases b<;>simp only [TV.kL] at h<;>first | rfl | (cases h;done)
 | x::a,b,c,h=>by
  cases b<;>simp only [TV.kL] at h<;>first | (cases h;done) | skip
  split at h
  ·rename_i h2
   simp [Gr a _ _ h2]
  ·cases h
theorem jR {S:Nat} {an:Nat->Option (List TV)}:∀{l:List Nat} {t:List TV} {k:List TV->Prop},NU S an l t k->∃t',Fs P w0 t t'/\Ag S t t'/\k t'
 | [],t,k,h=>⟨t,Fs.refl t,Ag.refl S t,h⟩
 | d::l,t,k,h=>by
  unfold NU at h
  split at h
  ·rename_i cs hs
   have hd:=dL hs (by simp)
   split at h
   ·exact h.elim
   ·rename_i hat
    simp only [Bool.and_eq_true] at hat
    have hne:0 < cs.length:=by simpa [Nat.blt_eq] using hat.2
    split at h
    ·rename_i T hf
     split at h
     ·rename_i c hc
      obtain⟨h1,h2⟩:=fZ.1 h
      obtain⟨h3,h4⟩:=bV.1 h2
      rw [fV,bH] at h4
      obtain⟨t',q1,q2,q3⟩:=jR h4
      exact⟨t',(Fs.freeze hd hat.1 hne (fun σ vs=>dD _ _ _ hc h1 vs) (Gr _ _ _ hc).symm).trans q1,(Ag.set h3).trans q2,q3⟩
     ·exact h.elim
    ·obtain⟨h3,h4⟩:=bV.1 h
     rw [bH] at h4
     obtain⟨t',q1,q2,q3⟩:=jR h4
     exact⟨t',(Fs.freeze hd hat.1 hne (fun σ vs h=>h) rfl).trans q1,(Ag.set h3).trans q2,q3⟩
  ·exact jR h
def zZ (t:List TV):List TV:=t.map fun v=>match v with
 | .aac _ _=> .bg
 | v=>v
theorem z8:∀(l:List TV) (k:List TV->Prop),NV l k=k (zZ l)
 | [],k=>rfl
 | a::l,k=>by
  show NV l _=_
  rw [z8 l]
  cases a<;>rfl
theorem Om {t:List TV} {d:Nat} {v:TV} (h:(zZ t)[d]?=some v):(∀e o,v≠ .aac e o)/\(t[d]?=some v\/v= .bg):=by
 unfold zZ at h
 rw [List.getElem?_map] at h
 cases q:t[d]? with
 | none=>rw [q] at h;cases h
 | some u=>
  rw [q] at h
  simp only [Option.map_some,Option.some.injEq] at h
  subst h
  cases u<;>first | exact⟨(fun e o h=>by cases h), .inl rfl⟩ | exact⟨(fun e o h=>by cases h), .inr rfl⟩
theorem Cm (t:List TV):Cj (zZ t):=fun d e o h=>(Om h).1 e o rfl
theorem LH (t:List TV):Ja t (zZ t):=⟨by simp [zZ],fun d v h=>by
 obtain⟨h1,h2⟩:=Om h
 have hl:=(List.getElem?_eq_some_iff.1 h).1
 simp [zZ] at hl
 rcases h2 with h2 | rfl
 ·exact⟨v,h2,Wk.refl h1⟩
 ·exact⟨_,List.getElem?_eq_getElem hl,Wk.bg _⟩⟩
theorem Gt (S:Nat) (t:List TV):o9 S t (zZ t):=⟨by simp [zZ],fun d _=>by
 unfold zZ
 rw [List.getElem?_map]
 cases q:t[d]? with
 | none=>exact .inl rfl
 | some u=>
  cases u<;>first | exact .inl rfl | skip
  rename_i e o
  exact .inr ⟨e,o,rfl,rfl⟩⟩
def hide (t:List TV):List TV:=t.map TV.zL
theorem Oo:∀(l:List TV) (k:List TV->Prop),UY l k=k (hide l)
 | [],k=>rfl
 | a::l,k=>by
  show UY l _=_
  rw [Oo l];rfl
theorem hide_wk (t:List TV):Ja t (hide t):=⟨by simp [hide],fun d v h=>by
 unfold hide at h
 rw [List.getElem?_map] at h
 cases q:t[d]? with
 | none=>rw [q] at h;cases h
 | some u=>
  rw [q] at h
  simp only [Option.map_some,Option.some.injEq] at h
  subst h
  exact⟨u,rfl, .inl ⟨lT u,fun σ x h=>h⟩⟩⟩
def pg:List Nat->List TV->List TV
 | [],t=>t
 | d::l,t=>pg l (t.set d .bg)
theorem Oq:∀(l:List Nat) (t:List TV) (k:List TV->Prop),RL l t k=k (pg l t)
 | [],t,k=>rfl
 | d::l,t,k=>by
  show dK .bg t d (fun t=>RL l t k)=_
  rw [bH,Oq l];rfl
def Dt:List (Nat×TV)->List TV->List TV
 | [],t=>t
 | (d,v)::l,t=>Dt l (t.set d v)
theorem Ot:∀(l:List (Nat×TV)) (t:List TV) (k:List TV->Prop),RN l t k=k (Dt l t)
 | [],t,k=>rfl
 | (d,v)::l,t,k=>by
  show fU v (fun v=>dK v t d fun t=>RN l t k)=_
  rw [gK,bH,Ot l];rfl
theorem gB {l:List Nat} {n:Nat}:bK l n=true↔n∈l:=by
 induction l with
 | nil=>exact⟨fun h=>(by cases h),fun h=>(by cases h)⟩
 | cons a l ih=>
  unfold bK
  cases q:Nat.beq a n with
  | true=>exact⟨fun _=>by rw [Nat.eq_of_beq_eq_true q];simp,fun _=>rfl⟩
  | false=>
   simp only [ih,List.mem_cons]
   exact⟨.inr,fun h=>h.elim (fun h=>by subst h;rw [Nat.beq_refl] at q;cases q) id⟩
theorem Vi:∀{l:List Nat} {d:Nat},Nat.testBit (mask l) d=false->d∉l
 | [],d,_,h=>by cases h
 | a::l,d,h,hm=>by
  have e:Nat.testBit (mask (a::l)) d=(decide (a=d)||Nat.testBit (mask l) d):=by
   show Nat.testBit (Nat.lor (Nat.shiftLeft 1 a) (mask l)) d=_
   rw [show Nat.lor (Nat.shiftLeft 1 a) (mask l)=(1 <<< a)||| mask l from rfl,Nat.testBit_or]
   congr 1
   rw [Nat.one_shiftLeft,Nat.testBit_two_pow]
  rw [e] at h
  simp only [Bool.or_eq_false_iff,decide_eq_false_iff_not] at h
  rcases List.mem_cons.1 hm with q | q
  ·exact h.1 q.symm
  ·exact Vi h.2 q
theorem nD:∀{l:List Nat} {t:List TV} {d:Nat},d∉l->(pg l t)[d]?=t[d]?
 | [],t,d,_=>rfl
 | a::l,t,d,h=>by
  show(pg l (t.set a .bg))[d]?=_
  rw [nD (fun q=>h (by simp [q])),List.getElem?_set_ne (fun q=>h (by simp [q]))]
theorem Du:∀{l:List (Nat×TV)} {ss:List Nat} {t:List TV} {d:Nat},o5 ss l=true->d∉ss->(Dt l t)[d]?=t[d]?
 | [],ss,t,d,_,_=>rfl
 | (a,v)::l,ss,t,d,h,hd=>by
  simp only [o5,Bool.and_eq_true] at h
  obtain⟨⟨h1,_⟩,h2⟩:=h
  show(Dt l (t.set a v))[d]?=_
  rw [Du h2 hd,List.getElem?_set_ne (fun q=>hd (by subst q;exact gB.1 h1))]
theorem Ou {ss:List Nat}:∀{l:List (Nat×TV)},o5 ss l=true->∀p∈l,∀e o,p.2≠ .aac e o
 | [],_,p,hp=>by cases hp
 | (d,v)::l,h,p,hp=>by
  simp only [o5,Bool.and_eq_true] at h
  obtain⟨⟨_,h1⟩,h2⟩:=h
  rcases List.mem_cons.1 hp with rfl | hp
  ·intro e o q;simp only at q;subst q;cases h1
  ·exact Ou h2 p hp
theorem vM {t:List TV} {d:Nat} {u:TV} (hu:t[d]?=some u):slot t d=u:=by rw [dR,List.getD_eq_getElem?_getD,hu];rfl
theorem Qr:∀(v:TV) (l:List Int),(TV.fill v l).1.plain=v.plain
 | .i k none,l=>rfl
 | .i k (some n),[]=>rfl
 | .i k (some n),x::l=>rfl
 | .s T none,l=>rfl
 | .s T (some n),[]=>rfl
 | .s T (some n),x::l=>rfl
 | .p T,l=>rfl
 | .pb T,l=>rfl
 | .np z T,[]=>rfl
 | .np z T,x::l=>rfl
 | .oC T m,l=>rfl
 | .agg ae,l=>rfl
 | .aF ae,l=>rfl
 | .fn g fs cs,l=>rfl
 | .b _,l | .bp _,l | .f,l | .pn,l | .m _ _,l | .y _,l | .bD,l | .val _,l | .bg,l | .ow _,l | .aac _ _,l | .tab _ _ _,l | .rg _ _,l=>rfl
theorem Xm {v:TV} {l:List Int} {e o:Nat} (h:(TV.fill v l).1= .aac e o):v= .aac e o:=by
 cases v with
 | i k x=>cases x<;>cases l<;>cases h
 | s T x=>cases x<;>cases l<;>cases h
 | np z T=>cases l<;>cases h
 | aac d q=>exact h
 | _=>cases h
def cnt1 (v:TV):Nat:=match v with
 | .ow T=>TV.oD T
 | v=>TV.cnt v
theorem Ov {t:List TV} {d:Nat} {v:TV} {c:Cs} {xs:List Int} (h:UW t d v=some (c,xs)) (hc:aS.ok c) (hv:∀e o,v≠ .aac e o):xs.length=cnt1 v/\∀r,(sV v (xs++r)).2=r/\∀u,t[d]?=some u->Wk u (sV v (xs++r)).1:=by
 have gen:v.plain=true->TV.sU v (slot t d).zL=some (c,xs)->xs.length=TV.cnt v/\∀r,(TV.fill v (xs++r)).2=r/\∀u,t[d]?=some u->Wk u (TV.fill v (xs++r)).1:=fun hp h=>
  ⟨(jQ (σ:=fun _=>none) _ _ _ _ h hc).1,fun r=>⟨((jQ (σ:=fun _=>none) _ _ _ _ h hc).2 r).1,fun u hu=> .inl ⟨by rw [Qr];exact hp,fun σ x hx=>by
   rw [<- vM hu] at hx
   exact((jQ (σ:=σ) _ _ _ _ h hc).2 r).2 x hx⟩⟩⟩
 cases v with
 | ow T=>
  simp only [UW] at h
  split at h
  ·rename_i cs hs
   refine⟨(dH (σ:=fun _=>none) _ _ _ _ h hc).1,fun r=>⟨((dH (σ:=fun _=>none) _ _ _ _ h hc).2 r).1,fun u hu=> .inr ⟨cs,_,by rw [<- vM hu];exact hs,rfl,fun σ vs hx=>((dH (σ:=σ) _ _ _ _ h hc).2 r).2 vs hx⟩⟩⟩
  ·cases h
 | aac d o=>exact absurd rfl (hv d o)
 | _=>exact gen rfl h
theorem tC {t:List TV}:∀{l:List (Nat×TV)} {c:Cs} {xs:List Int} {s:List TV},zP t l=some (c,xs)->aS.ok c->(∀p∈l,∀e o,p.2≠ .aac e o)->Ja t s->xs.length=UX l/\Ja t (Dt (zQ l xs) s)
 | [],c,xs,s,h,hc,_,hw=>by
  simp only [zP,Option.some.injEq,Prod.mk.injEq] at h
  obtain⟨rfl,rfl⟩:=h
  exact⟨rfl,hw⟩
 | (d,v)::l,c,xs,s,h,hc,hn,hw=>by
  simp only [zP] at h
  split at h
  ·rename_i c1 x1 c2 x2 h1 h2
   simp only [Option.some.injEq,Prod.mk.injEq] at h
   obtain⟨rfl,rfl⟩:=h
   obtain⟨k1,k2⟩:=aS.aU.1 hc
   obtain⟨e1,e2⟩:=Ov h1 k1 (hn (d,v) (by simp))
   obtain⟨e3,e4⟩:=e2 x2
   have e:zQ ((d,v)::l) (x1++x2)=(d,(sV v (x1++x2)).1)::zQ l x2:=by
    show(match sV v (x1++x2) with | (v,r)=>(d,v)::zQ l r)=_
    rw [show sV v (x1++x2)=((sV v (x1++x2)).1,x2) from Prod.ext rfl e3]
   obtain⟨f1,f2⟩:=tC (s:=s.set d (sV v (x1++x2)).1) h2 k2 (fun p hp=>hn p (by simp [hp])) (hw.set e4)
   refine⟨by rw [List.length_append,e1,f1];rfl,?_⟩
   rw [e];exact f2
  ·cases h
theorem Vj {v:TV} {l:List Int} {e o:Nat} (h:(sV v l).1= .aac e o):v= .aac e o:=by
 cases v with
 | ow T=>cases h
 | _=>exact Xm h
theorem Gu {ss:List Nat}:∀{l:List (Nat×TV)} (xs:List Int),o5 ss l=true->o5 ss (zQ l xs)=true
 | [],xs,h=>h
 | (d,v)::l,xs,h=>by
  show o5 ss ((d,(sV v xs).1)::zQ l (sV v xs).2)=true
  simp only [o5,Bool.and_eq_true] at h ⊢
  obtain⟨⟨h1,h2⟩,h3⟩:=h
  refine⟨⟨h1,?_⟩,Gu _ h3⟩
  split
  ·rename_i e o q
   rw [Vj q] at h2;exact h2
  ·rfl
theorem Ow:∀{l:List Nat} {t s:List TV},Ja t s->Ja t (pg l s)
 | [],t,s,h=>h
 | d::l,t,s,h=>by
  show Ja t (pg l (s.set d .bg))
  exact Ow (h.set fun v _=>Wk.bg v)
def wT (L:LI) (ss:List Nat) (xs:List Int) (t:List TV):List TV:=Dt (zQ L.NS xs) (pg ss t)
theorem Ta {L:LI} {ss:List Nat} {xs:List Int} {t:List TV} {k:List TV->Prop} (h:U4 L ss xs t k):k (wT L ss xs t):=by
 unfold U4 at h
 rw [Oq,Ot] at h
 exact h
theorem Dv {L:LI} {ss:List Nat} {xs:List Int} {t:List TV} (hi:o5 ss L.NS=true) {d:Nat} (hd:d∉ss):(wT L ss xs t)[d]?=t[d]?:=by
 unfold wT
 rw [Du (Gu xs hi) hd,nD hd]
theorem vN:∀(l:List Nat) (t:List TV),(pg l t).length=t.length
 | [],t=>rfl
 | d::l,t=>by show(pg l (t.set d .bg)).length=_;rw [vN l];simp
theorem Km:∀(l:List (Nat×TV)) (t:List TV),(Dt l t).length=t.length
 | [],t=>rfl
 | (d,v)::l,t=>by show(Dt l (t.set d v)).length=_;rw [Km l];simp
theorem Kn (L:LI) (ss:List Nat) (xs:List Int) (t:List TV):(wT L ss xs t).length=t.length:=by
 unfold wT;rw [Km,vN]
theorem Xn {ss:List Nat} {t t2:List TV} (hl:t2.length=t.length) (hn:Cj t) (h:∀d,d∉ss->t2[d]?=t[d]?):Ja t2 (pg ss t):=by
 refine⟨by rw [vN,hl],fun d v' hv=>?_⟩
 by_cases hd:d∈ss
 ·have hlt:=(List.getElem?_eq_some_iff.1 hv).1
  rw [vN] at hlt
  have:v'= .bg:=by
   have key:∀(l:List Nat) (t:List TV),d∈l->d < t.length->(pg l t)[d]?=some .bg:=by
    intro l
    induction l with
    | nil=>intro t h;cases h
    | cons a l ih=>
     intro t h hlt
     show(pg l (t.set a .bg))[d]?=_
     by_cases hm:d∈l
     ·exact ih _ hm (by simpa using hlt)
     ·rw [nD hm]
      rcases List.mem_cons.1 h with q | q
      ·subst q;rw [List.getElem?_set_self hlt]
      ·exact absurd q hm
   rw [key ss t hd hlt] at hv
   injection hv with hv;exact hv.symm
  subst this
  exact⟨_,List.getElem?_eq_getElem (by omega),Wk.bg _⟩
 ·rw [nD hd] at hv
  exact⟨v',by rw [h d hd];exact hv,Wk.refl fun e o q=>hn d e o (by rw [hv,q])⟩
theorem Ko {S:Nat}:∀{l:List Nat} {K:Prop},U5 S l K->(∀d∈l,Nat.testBit S d=true)/\K
 | [],K,h=>⟨(fun d h=>by cases h),h⟩
 | a::l,K,h=>by
  obtain⟨h1,h2⟩:=bV.1 h
  obtain⟨h3,h4⟩:=Ko h2
  exact⟨fun d hd=>(List.mem_cons.1 hd).elim (fun q=>by subst q;exact h1) (h3 d),h4⟩
theorem Gv:∀{n:Nat} {K:List Int->Prop},allI n K->∀l:List Int,l.length=n->K l
 | 0,K,h,l,hl=>by rw [List.length_eq_zero_iff.1 hl];exact h
 | n+1,K,h,[],hl=>by simp at hl
 | n+1,K,h,x::l,hl=>Gv (h x) l (by simpa using hl)
end
end Go.TM
namespace Go.TM
open Go Go.RowKit Go.AM
section
variable {P:Program} {w0:World} {ro:Option Nat}
theorem Step.keep {σ σ':TE} {g g':G} {t:List TV} {tm:Array Value} {w w':World} (h:Rel P w0 σ g t tm w) (p:aJ P w0 σ g w σ' g' w'):Step P w0 σ g t tm w σ' g' t tm w':=
 ⟨⟨ai.ext p.ext _ _ h.tl,h.own.post p,p.rel⟩,p.ext,p.size,fun r hr h1 h2 h3=>by
  obtain⟨a,b,c⟩:=p.frame r hr h1 h2
  exact⟨a,b,c,h3⟩⟩
theorem dN {σ:TE} {g:G} {w:World} {l:Nat} {r:wQ} (h:TW P w0 σ g w) (hl:g l=some (.loop r)):∃fn tm,w.heap[l]?=some (.loop {state:=r.state,pending:=r.pending,fn,tmps:=tm,params:=r.params,assign:=r.assign,body:=r.body,defers:=r.defers})/\ai σ r.tmps tm.toList:=by
 obtain⟨_,O,hO,fn,tm,rfl,ht⟩:=h.obj l _ hl
 exact⟨fn,tm,hO,ht⟩
theorem jO {σ:TE} {g:G} {w:World} {l:Nat} {r:wQ} (h:TW P w0 σ g w) (hl:g l=some (.loop r)) {fn:FuncId} {tm:Array Value} (ht:ai σ r.tmps tm.toList) (st:LoopState) (j:Option Code):
  aJ P w0 σ g w σ (G.put g l (.loop {r with state:=st,pending:=j})) (w.putObj l (.loop {state:=st,pending:=j,fn,tmps:=tm,params:=r.params,assign:=r.assign,body:=r.body,defers:=r.defers})):=by
 have hlt:=h.Ya hl
 exact aJ.setG h l _ hl (some (.loop {r with state:=st,pending:=j})) (fun x hx=>by injection hx with hx;subst hx;exact⟨_,World.putObj_heap_same hlt,fn,tm,rfl,ht⟩) (by simp) (fun k hk=>World.putObj_heap_other hk) rfl rfl rfl
def I1 (P:Program) (w0:World) (ro:Option Nat) (Q:Exit->St->Prop) (t:List TV) (d:List Nat) (l:Nat) (_:TV) (g:G):Prop:=
 ∃r,g l=some (.loop r)/\r.state≠ .busy/\match r.pending with
  | none=>Q .normal ⟨t,d,G.put g l (.loop {r with state:= .exhausted})⟩
  | some c=>TA P w0 ro c Q ⟨t,d,G.put g l (.loop {r with state:= .exhausted})⟩
theorem l6 {g:Operand} {ps:Array Tmp} {assign body:Code} {Q:Exit->St->Prop} {s:St} {f:FuncId} {fs cs:List TV} {R:Nat->List Nat->G->Prop} (hg:ev s.t g= .fn f fs cs) (hgo:Goes P f)
  (hent:∀σ a w,IZ P w0 σ s a w->∀fn:FuncId,∃w1 mark l d g1,(Instr.enterLoop fn a.tmps ps assign body (qX ro).round).run P w= .ok (l,mark) w1/\aJ P w0 σ s.g w σ g1 w1/\mark++a.defers=marks d/\R l d g1)
  (h:∀l d g1,R l d g1->av P w0 f (fs++[.y l]++cs) g1 (I1 P w0 ro Q s.t d l)):TA P w0 ro (.rangeFunc g ps assign body) Q s:=by
 refine .of fun σ a w m=>?_
 have hv:=aN m.rel.tl g
 rw [hg] at hv
 simp only [af] at hv
 obtain⟨vs,us,hv,hfs,hcs⟩:=hv
 refine wpIn_rangeFunc fun fn _=>?_
 obtain⟨w1,mark,l,d,g1,he,hp,hmk,hR⟩:=hent σ a w m fn
 have hres:(resolve a.eval (rangeCall g l) 0).run P w1= .ok {target:= .fn (.func f) us,args:=vs++#[Value.func (.yield l) #[] #[]]} w1:=by
  have e:(#[Operand.const (Value.func (.yield l) #[] #[])].map a.eval)=#[Value.func (.yield l) #[] #[]]:=by simp [Act.eval]
  show(Deferred.ofValue (a.eval g) (#[Operand.const (Value.func (.yield l) #[] #[])].map a.eval)).run P w1=_
  rw [hv,e];rfl
 refine⟨l,mark,w1,{target:= .fn (.func f) us,args:=vs++#[Value.func (.yield l) #[] #[]]},w1,f,(vs++#[Value.func (.yield l) #[] #[]])++us,w1,he,hres,fun _ _=>trivial,hgo ((vs++#[Value.func (.yield l) #[] #[]])++us) w1,by simp [Fence.wide],?_⟩
 have hargs:ai σ (fs++[.y l]++cs) ((vs++#[Value.func (.yield l) #[] #[]])++us).toList:=by
  have hy:ai σ [.y l] [Value.func (.yield l) #[] #[]]:=ai.one (by simp only [af])
  have:=(hfs.append hy).append hcs
  simpa using this
 refine CallsIn.mono (R:=fun e w'=>∃v r g' σ',e= .returned v/\I1 P w0 ro Q s.t d l r g'/\aJ P w0 σ g1 w1 σ' g' w'/\af σ' r v) ((h l d g1 hR).get σ w1 _ hargs hp.rel) ?_
 rintro e w2 ⟨v,r,g2,σ2,rfl,⟨rr,hgl,hst,hend⟩,hp2,_⟩
 obtain⟨WJ,X0,hO,ht2⟩:=dN hp2.rel hgl
 have hp3:=hp2.trans (jO hp2.rel hgl (fn:=WJ) ht2 .exhausted rr.pending)
 refine⟨rr.pending,_,run_endLoop hO hst,?_⟩
 have Nn:Came P w0 σ s a w σ2 ⟨s.t,d,G.put g2 l (.loop {rr with state:= .exhausted})⟩ {a with defers:=mark++a.defers} (w2.putObj l (.loop {state:= .exhausted,pending:=rr.pending,fn:=WJ,tmps:=X0,params:=rr.params,assign:=rr.assign,body:=rr.body,defers:=rr.defers})):=
  ⟨Step.keep m.rel (hp.trans hp3),hmk⟩
 obtain⟨st,pd,tms,prs,asn,bdy,dfs⟩:=rr
 cases pd with
 | none=>exact⟨_,σ2,hend,Nn⟩
 | some c=>exact TA.behind hend Nn
def fH (t:List TV) (ps:Array Tmp) (assign body:Code) (df:Nat):wQ:={state:= .ready,pending:=none,tmps:=hide t,params:=ps,assign,body,defers:=df}
theorem Gw {σ:TE}:∀{t:List TV} {vs:List Value},ai σ t vs->ai σ (hide t) vs
 | [],vs,h=>h
 | v::t,vs,h=>by
  simp only [ai] at h
  obtain⟨x,r,rfl,h1,h2⟩:=h
  exact⟨x,r,rfl,lJ h1,Gw h2⟩
theorem TA.zD {g:Operand} {ps:Array Tmp} {assign body:Code} {Q:Exit->St->Prop} {s:St} {f:FuncId} {fs cs:List TV} (hg:ev s.t g= .fn f fs cs) (hgo:Goes P f)
  (h:∀l df,s.g l=none->s.g df=none->l≠df->df∉s.d->av P w0 f (fs++[.y l]++cs) (G.put (G.put s.g df .ng) l (.loop (fH s.t ps assign body df))) (I1 P w0 none Q s.t (df::s.d) l)) (hd:∀r∈s.d,s.g r≠none):
  TA P w0 none (.rangeFunc g ps assign body) Q s:=l6 (R:=fun l d g1=>∃df,s.g l=none/\s.g df=none/\l≠df/\df∉s.d/\d=df::s.d/\g1=G.put (G.put s.g df .ng) l (.loop (fH s.t ps assign body df))) hg hgo (fun σ a w m fn=>by
 have p1:=aJ.UM m.rel.tw .ng (.deferred (some [])) rfl
 have p2:=aJ.UM p1.rel (.loop (fH s.t ps assign body w.heap.size)) (.loop {state:= .ready,pending:=none,fn,tmps:=a.tmps,params:=ps,assign,body,defers:=w.heap.size}) ⟨fn,a.tmps,rfl,Gw m.rel.tl⟩
 obtain⟨_,f2⟩:=m.rel.tw.free
 obtain⟨_,f3⟩:=p1.rel.free
 have hsz:(w.alloc (.deferred (some []))).heap.size=w.heap.size+1:=by simp
 rw [hsz] at p2 f3
 have f4:s.g (w.heap.size+1)=none:=by
  unfold G.put at f3
  rw [if_neg (by omega)] at f3;exact f3
 refine⟨_,[{target:= .collected w.heap.size,args:=#[]}],w.heap.size+1,w.heap.size::s.d,_,by simpa using run_enterLoop_outer (P:=P) (w:=w) fn a.tmps ps assign body,p1.trans p2,?_,w.heap.size,f4,f2,by omega,fun hm=>hd _ hm f2,rfl,rfl⟩
 rw [m.d];rfl) (fun l d g1 ⟨df,q1,q2,q3,q4,q5,q6⟩=>by subst q5;subst q6;exact h l df q1 q2 q3 q4)
theorem TA.Rs {l0:Nat} {g:Operand} {ps:Array Tmp} {assign body:Code} {Q:Exit->St->Prop} {s:St} {f:FuncId} {fs cs:List TV} {r0:wQ} (hg:ev s.t g= .fn f fs cs) (hgo:Goes P f) (hl:s.g l0=some (.loop r0))
  (h:∀l,s.g l=none->av P w0 f (fs++[.y l]++cs) (G.put s.g l (.loop (fH s.t ps assign body r0.defers))) (I1 P w0 (some l0) Q s.t s.d l)):
  TA P w0 (some l0) (.rangeFunc g ps assign body) Q s:=l6 (R:=fun l d g1=>s.g l=none/\d=s.d/\g1=G.put s.g l (.loop (fH s.t ps assign body r0.defers))) hg hgo (fun σ a w m fn=>by
 obtain⟨fn0,tm0,hO,_⟩:=dN m.rel.tw hl
 have p1:=aJ.UM m.rel.tw (.loop (fH s.t ps assign body r0.defers)) (.loop {state:= .ready,pending:=none,fn,tmps:=a.tmps,params:=ps,assign,body,defers:=r0.defers}) ⟨fn,a.tmps,rfl,Gw m.rel.tl⟩
 refine⟨_,[],w.heap.size,s.d,_,run_enterLoop_inner (P:=P) (w:=w) hO fn a.tmps ps assign body,p1,by rw [List.nil_append,m.d],m.rel.tw.free.2,rfl,rfl⟩) (fun l d g1 ⟨q1,q2,q3⟩=>by subst q2;subst q3;exact h l q1)
noncomputable def gp (ps:List Tmp) (args:List TV) (t:List TV):List TV:=(ps.zip args).foldl (fun t p=>t.set p.1 p.2) t
theorem l7 {σ:TE}:∀(ps:List Tmp) {args:List TV} {vs:List Value} {t:List TV} {tm:Array Value},ai σ args vs->ai σ t tm.toList->ai σ (gp ps args t) ((ps.zip vs).foldl (fun tm p=>tm.setIfInBounds p.1 p.2) tm).toList
 | [],args,vs,t,tm,_,ht=>by simpa [gp] using ht
 | p::ps,[],vs,t,tm,ha,ht=>by
  simp only [ai] at ha;subst ha
  simpa [gp] using ht
 | p::ps,x::args,vs,t,tm,ha,ht=>by
  simp only [ai] at ha
  obtain⟨v,q,rfl,h1,h2⟩:=ha
  simp only [gp,List.zip_cons_cons,List.foldl_cons]
  exact l7 ps h2 (t:=t.set p x) (tm:=tm.setIfInBounds p v) (by simpa using ht.set p h1)
theorem Aa:∀(ps:List Tmp) {args t:List TV},(∀v∈args,v.plain=true)->(∀{d:Nat} {v:TV},t[d]?=some v->v.plain=true)->∀{d:Nat} {v:TV},(gp ps args t)[d]?=some v->v.plain=true
 | [],args,t,_,ht,d,v,h=>ht (by simpa [gp] using h)
 | p::ps,[],t,_,ht,d,v,h=>ht (by simpa [gp] using h)
 | p::ps,x::args,t,ha,ht,d,v,h=>by
  simp only [gp,List.zip_cons_cons,List.foldl_cons] at h
  refine Aa ps (t:=t.set p x) (fun v hv=>ha v (by simp [hv])) (fun {d v} hd=>?_) h
  rcases aK hd with⟨_,q⟩ | ⟨_,hd⟩
  ·subst q;exact ha _ (by simp)
  ·exact ht hd
def WK (l:Nat) (K:TV->G->Prop) (e:Exit) (s:St):Prop:=
 ∃j r,AM.Exit.jump e=some j/\s.g l=some (.loop r)/\K (.b (some j.isNone)) (G.put s.g l (.loop {r with state:=if j.isNone then .ready else .done,pending:=j}))
theorem iL.yield {o:Oper} {t:List TV} {s:G} {K:List TV->G->Prop} {g:Operand} {args:Array Operand} {ts:Array TypeId} {l:Nat} {r:wQ} (ho:o.op= .call {callee:= .value g,args,argTypes:=ts})
  (hg:ev t g= .y l) (hl:s l=some (.loop r)) (hn:r.params.size=args.size) (hpl:∀{d:Nat} {v:TV},r.tmps[d]?=some v->v.plain=true)
  (h:TA P w0 (some l) r.assign (fun e s1=>e= .normal/\∃r1,s1.g l=some (.loop r1)/\r1.state= .ready/\TA P w0 (some l) r.body (WK l fun v g=>K (eG t o.dst v) g) ⟨s1.t,s1.d,G.put s1.g l (.loop {r1 with state:= .busy})⟩)
   ⟨gp r.params.toList (args.toList.map (dw t)) r.tmps,[],s⟩):iL P w0 ro o t s K:=by
 refine .of fun σ a w m next Q hnx=>?_
 have hv:=aN m.tl g
 rw [hg] at hv
 simp only [af] at hv
 obtain⟨fn,tm,hO,ht⟩:=dN m.tw hl
 refine⟨fun _ _=>trivial,?_⟩
 rw [Oper.semAt_eq _ _ _ (fun q hq=>by rw [ho] at hq;cases hq),oM ho hv]
 have hrun:(invoke (.fn (.yield l) #[]) (#[]++args.map a.eval)).run P w= .ok (.round l fn ((r.params.zip (args.map a.eval)).foldl (fun tmps (t,a)=>tmps.setIfInBounds t a) tm) r.assign r.body) w:=by
  rw [show(invoke (.fn (.yield l) #[]) (#[]++args.map a.eval))=Instr.yield l (#[]++args.map a.eval) from rfl,Array.empty_append]
  exact run_yield hO (by simp [hn])
 rw [hrun]
 refine⟨by simp [Fence.wide],?_⟩
 refine roundIn_of_wpIn (F:=qX ro) trivial ?_
 have hrel:=l7 r.params.toList (oV m.tl args.toList) ht
 have harr:((r.params.zip (args.map a.eval)).foldl (fun tmps (x:Tmp×Value)=>tmps.setIfInBounds x.1 x.2) tm).toList=((r.params.toList.zip (args.toList.map a.eval)).foldl (fun tm p=>tm.setIfInBounds p.1 p.2) tm).toList:=by
  rw [<- Array.foldl_toList]
  simp
 obtain⟨o1,o2⟩:=J7 (w0:=w0) (σ:=σ) (g:=s) (w:=w) (tm:=(r.params.zip (args.map a.eval)).foldl (fun tmps (x:Tmp×Value)=>tmps.setIfInBounds x.1 x.2) tm) (t:=gp r.params.toList (args.toList.map (dw t)) r.tmps) (Aa _ (fun v hv=>by
  obtain⟨x,_,rfl⟩:=List.mem_map.1 hv
  exact lT _) hpl)
 have m1:IZ P w0 σ ⟨gp r.params.toList (args.toList.map (dw t)) r.tmps,[],s⟩ {tmps:=(r.params.zip (args.map a.eval)).foldl (fun tmps (x:Tmp×Value)=>tmps.setIfInBounds x.1 x.2) tm,defers:=[]} w:=
  ⟨⟨by rw [harr];exact hrel,o1,m.tw⟩,rfl⟩
 refine wpIn_mono (h.get σ _ w m1) ?_
 rintro e a1 w1 ⟨s1,σ1,⟨rfl,r1,hl1,hst,hbody⟩,k1⟩
 obtain⟨fn1,tm1,WL,ht1⟩:=dN k1.step.rel.tw hl1
 have p2:=jO k1.step.rel.tw hl1 (fn:=fn1) ht1 .busy r1.pending
 refine⟨_,run_beginRound WL hst,?_⟩
 have k2:=k1.trans (⟨Step.keep k1.step.rel p2,k1.d⟩:Came P w0 σ1 s1 a1 w1 σ1 ⟨s1.t,s1.d,G.put s1.g l (.loop {r1 with state:= .busy})⟩ a1 (w1.putObj l (.loop {state:= .busy,pending:=r1.pending,fn:=fn1,tmps:=tm1,params:=r1.params,assign:=r1.assign,body:=r1.body,defers:=r1.defers})))
 refine wpIn_mono (TA.behind hbody k2) ?_
 rintro e2 a2 w2 ⟨s2,σ2,⟨j,r2,hj,hl2,hk⟩,k3⟩
 obtain⟨WJ,X0,hO2,ht2⟩:=dN k3.step.rel.tw hl2
 have p4:=jO k3.step.rel.tw hl2 (fn:=WJ) ht2 (if j.isNone then .ready else .done) j
 have hend:=run_endRound (P:=P) j hO2
 have hfin:=hnx _ _ σ2 _ (.bool j.isNone) hk (Step.post m ((k3.step.out o2).trans p4) rfl (by simp only [af]) o.dst)
 cases e2 with
 | normal=>injection hj with hj;subst hj;exact⟨_,_,hend,hfin⟩
 | ret=>injection hj with hj;subst hj;exact⟨_,_,hend,hfin⟩
 | exit i=>injection hj with hj;subst hj;exact⟨_,_,hend,hfin⟩
 | goto i=>injection hj with hj;subst hj;exact⟨_,_,hend,hfin⟩
 | panic c=>cases hj
 | outgrown=>cases hj
end
end Go.TM
namespace Go.TM
open Go Go.RowKit Go.AM
section
variable {P:Program} {w0:World} {ro:Option Nat}
def tH (a:Act):List Oper->List Value->Act
 | [],_=>a
 | o::l,x::xs=>tH (a.put o.dst x) l xs
 | o::l,[]=>tH a l []
theorem nE (a:Act):∀(l:List Oper) (xs:List Value),(tH a l xs).defers=a.defers
 | [],_=>rfl
 | o::l,x::xs=>by unfold tH;rw [nE (a.put o.dst x) l xs,put_defers]
 | o::l,[]=>by unfold tH;rw [nE a l []]
theorem qN {j:Nat}:∀(l:List Oper) (xs:List Value) (a:Act),j∉dstsOf l->(tH a l xs).tmps[j]?=a.tmps[j]?
 | [],_,a,_=>rfl
 | o::l,x::xs,a,h=>by
  unfold dstsOf at h
  simp only [List.mem_append,not_or] at h
  unfold tH
  rw [qN l xs _ h.2]
  cases hd:o.dst with
  | none=>rfl
  | some d=>
   rw [hd] at h
   exact nz (by simpa using h.1)
 | o::l,[],a,h=>by
  unfold dstsOf at h
  simp only [List.mem_append,not_or] at h
  unfold tH
  exact qN l [] a h.2
theorem tJ {ops:List Oper} {t:List TV} {o:Oper} (h:o.guard=none):dG ops t o= .yes:=by unfold dG;rw [h]
theorem aQ.puts {ops:Array Oper} {Q:List TV->G->Prop} {R:Exit->Act->World->Prop} {σ0:TE} {g0:G} {t0:List TV} {a0:Act} {w1:World}
  (hR:∀t' g' σ' w' xs,Q t' g'->Step P w0 σ0 g0 t0 a0.tmps w1 σ' g' t' (tH a0 ops.toList xs).tmps w'->R .normal (tH a0 ops.toList xs) w'):
  ∀(l:List Oper) (k:Nat) (t:List TV) (g:G) (σ:TE) (a:Act) (w:World),sW l=true->ops.toList.drop k=l->(∀xs,∃ys,tH a l xs=tH a0 ops.toList ys)->aQ P w0 ro ops.toList Q l t g->Step P w0 σ0 g0 t0 a0.tmps w1 σ g t a.tmps w->wpOpsIn (qX ro) 0 P ops R ((List.range ops.size).drop k) a w
 | [],k,t,g,σ,a,w,hn,hl,hp,h,s=>by
  have:ops.size<=k:=by have:=congrArg List.length hl;simp at this;omega
  rw [List.drop_eq_nil_of_le (by simpa using this)]
  obtain⟨ys,hy⟩:=hp []
  have e:a=tH a0 ops.toList ys:=hy
  have h:Q t g:=h
  have:=hR t g σ w ys h (by rw [<- e];exact s)
  rw [e];exact this
 | o::l,k,t,g,σ,a,w,hn,hl,hp,h,s=>by
  have hk:k < ops.size:=by have:=congrArg List.length hl;simp at this;omega
  have ho:ops[k]?=some o:=by
   have:=congrArg List.head? hl
   rw [List.head?_drop] at this
   simpa using this
  have hl':ops.toList.drop (k+1)=l:=by
   have:=congrArg List.tail hl
   simpa using this
  simp only [sW,Bool.and_eq_true] at hn
  have hg:o.guard=none:=by
   have:=hn.1
   split at this
   ·assumption
   ·cases this
  rw [List.drop_eq_getElem_cons (by simpa using hk)]
  simp only [List.getElem_range]
  unfold wpOpsIn
  simp only [ho]
  have hs:=dS (ops:=ops) s.rel.tl (o:=o)
  unfold aQ at h
  rw [tJ hg] at h hs
  simp only at h hs
  rw [if_pos hs]
  refine h.get σ a w s.rel _ _ fun t' g' σ' w' x hv hp'=>?_
  exact aQ.puts hR l (k+1) _ _ σ' _ w' hn.2 hl' (fun xs=>hp (x::xs)) hv (s.trans hp')
def mi (b:Bool) (σ:TE):TE:=fun r=>match σ r with
 | some (.row T m)=>if rowOk b T then some (.row T m) else none
 | _=>none
theorem jS {b:Bool} {σ:TE} {r:Nat} {B:TB} (h:mi b σ r=some B):σ r=some B/\∃T m,B= .row T m/\rowOk b T=true:=by
 unfold mi at h
 split at h
 ·rename_i T m hs
  split at h
  ·rename_i hu
   injection h with h;subst h
   exact⟨hs,T,m,rfl,hu⟩
  ·cases h
 ·cases h
theorem Ox {b:Bool} {σ:TE} {r m:Nat} {T:List TV} (h:σ r=some (.row T m)) (hT:rowOk b T=true):mi b σ r=some (.row T m):=by
 unfold mi;rw [h];simp [hT]
theorem Vk {b:Bool} {σ:TE} {r m:Nat} {T:List TV} (h:σ r=some (.row T m)) (hT:rowOk b T=false):mi b σ r=none:=by
 unfold mi;rw [h];simp [hT]
theorem tK {σ σ':TE} {v:TV} (h:ru v=true) {x:Value} (hx:af σ v x):af σ' v x:=by
 cases v<;>first | (cases h;done) | skip
 case b y=>cases y<;>simpa only [af] using hx
 case i k y=>cases y<;>simpa only [af] using hx
 all_goals simpa only [af] using hx
theorem Xo {T:List TV} (h:T.all ru=true):rowOk true T=true:=by
 unfold rowOk
 rw [List.all_eq_true] at h ⊢
 intro v hv
 have:=h v hv
 cases v<;>first | exact this | cases this
theorem Gx {v:TV} (h:ru v=true):v.plain=true:=by cases v<;>first | rfl | cases h
section
variable {b:Bool} {σ σ':TE} (hk:∀r T m,σ r=some (.row T m)->rowOk b T=true->σ' r=some (.row T m))
include hk
theorem relS {T:List TV} {x:Option Int} (h:rowOk b T=true) {v:Value} (hv:af σ (.s T x) v):af σ' (.s T x) v:=by
 simp only [af] at hv ⊢
 obtain⟨A,k,C,e,h1,h2,h3,h4⟩:=hv
 refine⟨A,k,C,e,h1,h2,h3,fun a ha=>?_⟩
 obtain⟨r,j,m,e1,e2,e3⟩:=h4 a ha
 exact⟨r,j,m,e1,hk r T m e2 h,e3⟩
theorem rel1 {a:TV} (h:lvA b a=true) {v:Value} (hv:af σ a v):af σ' a v:=by
 cases b with
 | false=>exact tK h hv
 | true=>
  cases a with
  | s T x=>exact relS hk (Xo h) hv
  | _=>refine tK ?_ hv;exact h
theorem rel2 {a:TV} (h:ZT b a=true) {v:Value} (hv:af σ a v):af σ' a v:=by
 cases b with
 | false=>
  cases a with
  | s T x=>exact relS hk h hv
  | _=>refine tK ?_ hv;exact h
 | true=>
  cases a with
  | pb T=>
   simp only [af] at hv ⊢
   obtain⟨r,e,h1⟩:=hv
   exact⟨r,e,hk r T 1 h1 h⟩
  | np z T=>
   simp only [af] at hv ⊢
   rcases hv with hv | ⟨hz,r,e,h1⟩
   ·exact .inl hv
   ·exact .inr ⟨hz,r,e,hk r T 1 h1 h⟩
  | _=>refine rel1 hk ?_ hv;exact h
theorem Vl:∀{l:List TV} {vs:List Value},l.all (ZT b)=true->ai σ l vs->ai σ' l vs
 | [],vs,_,h=>h
 | a::l,vs,hl,h=>by
  simp only [List.all_cons,Bool.and_eq_true] at hl
  simp only [ai] at h ⊢
  obtain⟨v,q,e,h1,h2⟩:=h
  exact⟨v,q,e,rel2 hk hl.1 h1,Vl hl.2 h2⟩
theorem Vm {T:List TV} {m:Nat} (hT:rowOk b T=true) {o:Obj} (h:RelB P σ (.row T m) o):RelB P σ' (.row T m) o:=by
 obtain⟨C,e,ho,h1,h0,h2⟩:=h
 refine⟨C,e,ho,h1,h0,fun i a hi ha=>?_⟩
 obtain⟨v,hv,hr⟩:=h2 i a hi ha
 refine⟨v,hv,rel1 hk ?_ hr⟩
 unfold rowOk at hT
 rw [List.all_eq_true] at hT
 exact hT a (List.mem_of_getElem? ha)
end
theorem tL:∀{l:List Nat} {n:Nat},bK l n=true↔n∈l
 | [],n=>by simp [bK]
 | a::l,n=>by
  unfold bK
  cases h:Nat.beq a n with
  | true=>simp [Nat.eq_of_beq_eq_true h]
  | false=>
   have:n≠a:=fun e=>by subst e;rw [Nat.beq_refl] at h;cases h
   simp [tL (l:=l),this]
abbrev Cn:=List (Nat×List TV)
theorem vO {es:Cn}:∀(t:List TV) (i j:Nat),(nC es i t)[j]?=(t[j]?).map fun v=>Gb (dC es (i+j)) v
 | [],i,j=>by simp [nC]
 | v::t,i,0=>by simp only [nC,List.getElem?_cons_zero,Option.map_some,Nat.add_zero]
 | v::t,i,j+1=>by
  unfold nC
  rw [List.getElem?_cons_succ,vO t (i+1) j,List.getElem?_cons_succ,show i+1+j=i+(j+1) by omega]
theorem Gy (x:Option (List TV)) (v:TV):(Gb x v).plain=true:=by
 cases x with
 | some T=>rfl
 | none=>
  unfold Gb
  cases h:ru v with
  | true=>exact Gx h
  | false=>rfl
theorem Xp {b:Option (List TV)} {v u:TV} (h:Gb b v=u) {cs:List TV} {e o:Nat} (hu:u= .ow cs\/u= .aac e o):False:=by
 have:=Gy b v
 rw [h] at this
 rcases hu with rfl | rfl<;>cases this
theorem Gz (v:TV):(NZ v).plain=true:=by
 unfold NZ
 cases h:ru v with
 | true=>exact Gx h
 | false=>rfl
theorem pq {ds:List Nat}:∀(t u:List TV) (i j:Nat),t.length=u.length->(kz ds i t u)[j]?=match bK ds (i+j) with
  | true=>(u[j]?).map NZ
  | false=>t[j]?
 | [],u,i,j,h=>by
  have:u=[]:=List.length_eq_zero_iff.1 (by simpa using h.symm)
  subst this
  cases bK ds (i+j)<;>simp [kz]
 | v::t,[],i,j,h=>by simp at h
 | v::t,x::u,i,0,h=>by
  simp only [kz,List.getElem?_cons_zero,Nat.add_zero]
  cases bK ds i<;>rfl
 | v::t,x::u,i,j+1,h=>by
  unfold kz
  rw [List.getElem?_cons_succ,pq t u (i+1) j (by simpa using h),show i+1+j=i+(j+1) by omega]
  simp only [List.getElem?_cons_succ]
theorem qO {ds:List Nat}:∀(t u:List TV) (i:Nat),t.length=u.length->(kz ds i t u).length=t.length
 | [],u,i,h=>by
  have:u=[]:=List.length_eq_zero_iff.1 (by simpa using h.symm)
  subst this;rfl
 | v::t,[],i,h=>by simp at h
 | v::t,x::u,i,h=>by unfold kz;simp [qO t u (i+1) (by simpa using h)]
theorem Ab {es:Cn}:∀(t:List TV) (i:Nat),(nC es i t).length=t.length
 | [],i=>rfl
 | v::t,i=>by unfold nC;simp [Ab t (i+1)]
def iN (tm:Array Value) (es:Cn) (r:Nat) (T:List TV):Prop:=∃e,dC es e=some T/\bS tm e=r
open Classical in
noncomputable def Dw (b:Bool) (σ:TE) (tm:Array Value) (es:Cn):TE:=fun r=>if h:∃T,iN tm es r T then some (.row (Classical.choose h) 1) else mi b σ r
def yA (b:Bool) (t:List TV) (es:Cn):Prop:=∀e T,dC es e=some T->∃cs,t[e]?=some (.ow cs)/\TV.atoms cs=true/\(T.all (ZT b)=true/\rowOk b T=false)/\0 < T.length/\T.length=cs.length/\∀σ vs,ai σ cs vs->ai σ T vs
theorem Kq {b:Bool} {t:List TV}:∀{es:Cn} {c:Cs} {L:Cn},N7 b t es=some (c,L)->aS.ok c->yA b t L/\(∀e T,dC L e=some T->e∈es.map (·.1))/\(∀e T,(e,T)∈L↔dC L e=some T)
 | [],c,L,h,hc=>by
  simp only [N7,Option.some.injEq,Prod.mk.injEq] at h
  obtain⟨_,rfl⟩:=h
  exact⟨fun e T h=>(by cases h),fun e T h=>(by cases h),fun e T=>⟨fun h=>(by cases h),fun h=>(by cases h)⟩⟩
 | (a,T0)::es,c,L,h,hc=>by
  simp only [N7] at h
  split at h
  ·rename_i cs hs
   split at h
   ·rename_i c1 r hr
    split at h
    ·cases h
    rename_i hnew
    have fin:∀(T:List TV),aS.ok c1->L=(a,T)::r->TV.atoms cs=true->(T.all (ZT b)=true/\rowOk b T=false)->0 < T.length->T.length=cs.length->(∀σ vs,ai σ cs vs->ai σ T vs)->yA b t L/\(∀e T,dC L e=some T->e∈((a,T0)::es).map (·.1))/\(∀e T,(e,T)∈L↔dC L e=some T):=fun T hc1 hL h1 h2 h3 h4 h5=>by
     obtain⟨q1,q2,q3⟩:=Kq hr hc1
     subst hL
     have key:∀e T',dC ((a,T)::r) e=some T'->(e=a/\T'=T)\/dC r e=some T':=fun e T' he=>by
      unfold dC at he
      split at he
      ·rename_i hb
       injection he with he
       exact .inl ⟨(Nat.eq_of_beq_eq_true hb).symm,he.symm⟩
      ·exact .inr he
     refine⟨fun e T' he=>?_,fun e T' he=>?_,fun e T'=>?_⟩
     ·rcases key e T' he with⟨rfl,rfl⟩ | he
      ·exact⟨cs,dL hs (by simp),h1,h2,h3,h4,h5⟩
      ·exact q1 e T' he
     ·rcases key e T' he with⟨rfl,_⟩ | he
      ·simp
      ·exact List.mem_cons_of_mem _ (q2 e T' he)
     ·constructor
      ·intro hm
       rcases List.mem_cons.1 hm with hm | hm
       ·injection hm with e1 e2;subst e1;subst e2
        unfold dC;rw [Nat.beq_refl]
       ·have hq:=(q3 e T').1 hm
        unfold dC
        split
        ·rename_i hb
         have:=Nat.eq_of_beq_eq_true hb
         subst this
         rw [hnew] at hq;cases hq
        ·exact hq
      ·intro he
       rcases key e T' he with⟨rfl,rfl⟩ | he
       ·simp
       ·exact List.mem_cons_of_mem _ ((q3 e T').2 he)
    split at h
    ·split at h
     ·rename_i hb
      simp only [Bool.and_eq_true] at hb
      simp only [Option.some.injEq,Prod.mk.injEq] at h
      obtain⟨rfl,rfl⟩:=h
      exact fin cs hc rfl hb.1.1.1 ⟨hb.1.1.2,by simpa using hb.1.2⟩ (by simpa [Nat.blt_eq] using hb.2) rfl fun σ vs h=>h
     ·cases h
    ·split at h
     ·rename_i c2 hc2
      split at h
      ·rename_i hb
       simp only [Bool.and_eq_true] at hb
       simp only [Option.some.injEq,Prod.mk.injEq] at h
       obtain⟨rfl,rfl⟩:=h
       obtain⟨k1,k2⟩:=aS.aU.1 hc
       exact fin _ k2 rfl hb.1.1 ⟨hb.1.2,by simpa using hb.2⟩ (by simp) (Gr _ _ _ hc2).symm fun σ vs h=>dD _ _ _ hc2 k1 vs h
      ·cases h
     ·cases h
   ·cases h
  ·cases h
theorem Qs {t:List TV}:∀{ds:List Nat},Lt t ds=true->∀d∈ds,∀cs,t[d]?≠some (.ow cs)
 | [],h,d,hd=>by cases hd
 | a::ds,h,d,hd=>by
  simp only [Lt,Bool.and_eq_true] at h
  rcases List.mem_cons.1 hd with rfl | hd
  ·intro cs q
   have:slot t d= .ow cs:=by rw [dR,List.getD_eq_getElem?_getD,q];rfl
   rw [this] at h
   exact absurd h.1 (by simp)
  ·exact Qs h.2 d hd
theorem Kr:∀{a b:List Nat},apart a b=true->∀x∈a,x∉b
 | [],b,h,x,hx=>by cases hx
 | y::a,b,h,x,hx=>by
  unfold apart at h
  cases hb:bK b y with
  | true=>rw [hb] at h;cases h
  | false=>
   rw [hb] at h
   rcases List.mem_cons.1 hx with rfl | hx
   ·intro q;rw [tL.2 q] at hb;cases hb
   ·exact Kr h x hx
section
variable {b:Bool} {σ:TE} {g:G} {w:World} {t:List TV} {tm:Array Value} {es:Cn}
theorem pz (ho:Own w0 σ g w t tm) (hl:yA b t es) {r:Nat} {T:List TV} (h:iN tm es r T):
  σ r=none/\g r=none/\w0.heap.size<=r/\qZ t tm r/\(T.all (ZT b)=true/\rowOk b T=false)/\0 < T.length/\∃C e,w.heap[r]?=some (.cells C e (0,0))/\C.size=T.length/\(∀v∈C.toList,v.oneCell'=true)/\ai σ T C.toList:=by
 obtain⟨e,he,rfl⟩:=h
 obtain⟨cs,hcs,hat,h2,h3,h4,h5⟩:=hl e T he
 obtain⟨r,q1,q2,q3,q4,C,ty,q5,q6⟩:=ho.ow e _ hcs
 have hr:=bP q1
 rw [hr]
 have:=q6.length
 simp only [Array.length_toList] at this
 exact⟨q2,q3,q4,⟨e,cs,hcs,hr⟩,h2,h3,C,ty,q5,by omega,fB q6 hat,h5 σ _ q6⟩
theorem Vn (ho:Own w0 σ g w t tm) (hl:yA b t es) {r:Nat} {T T':List TV} (h:iN tm es r T) (h':iN tm es r T'):T=T':=by
 obtain⟨e,he,hr⟩:=h
 obtain⟨e',he',hr'⟩:=h'
 obtain⟨cs,hcs,_⟩:=hl e T he
 obtain⟨cs',hcs',_⟩:=hl e' T' he'
 have:=ho.inj e e' cs cs' hcs hcs' (by rw [hr,hr'])
 subst this
 rw [he] at he';injection he'
theorem yB (ho:Own w0 σ g w t tm) (hl:yA b t es) {r:Nat} {T:List TV} (h:iN tm es r T):Dw b σ tm es r=some (.row T 1):=by
 unfold Dw
 have hx:∃T,iN tm es r T:=⟨T,h⟩
 rw [dif_pos hx,Vn ho hl (Classical.choose_spec hx) h]
theorem lU {r:Nat} (h:∀T,¬iN tm es r T):Dw b σ tm es r=mi b σ r:=by
 unfold Dw
 rw [dif_neg fun⟨T,q⟩=>h T q]
theorem Vo (h:Rel P w0 σ g t tm w) (hl:yA b t es):Rel P w0 (Dw b σ tm es) (fun _=>none) (nC es 0 t) tm w:=by
 have hnot:∀{r:Nat} {B:TB},σ r=some B->∀T,¬iN tm es r T:=fun {r B} hr T q=>by rw [(pz h.own hl q).1] at hr;cases hr
 have hk:∀r T m,σ r=some (.row T m)->rowOk b T=true->Dw b σ tm es r=some (.row T m):=fun r T m hr hT=>by rw [lU (hnot hr),Ox hr hT]
 have no:∀{d:Nat} {v:TV},(nC es 0 t)[d]?=some v->v.plain=true:=fun {d v} hd=>by
  rw [vO] at hd
  cases ht:t[d]? with
  | none=>rw [ht] at hd;cases hd
  | some u=>
   rw [ht] at hd
   simp only [Option.map_some,Option.some.injEq] at hd
   subst hd;exact Gy _ _
 refine⟨ai.of (by rw [Ab];exact h.tl.length) fun i a v ha hv=>?_,⟨fun d cs hd=>?_,fun d e cs cs' hd=>?_,fun e d o cs he=>?_⟩,⟨fun r B hr=>?_,(fun r o hr=>by cases hr),fun r B hr=>?_,(fun r o hr=>by cases hr),h.tw.below⟩⟩
 ·rw [vO,Nat.zero_add] at ha
  cases ht:t[i]? with
  | none=>rw [ht] at ha;cases ha
  | some u=>
   rw [ht] at ha
   simp only [Option.map_some,Option.some.injEq] at ha
   cases hi:dC es i with
   | some T=>
    rw [hi] at ha;simp only [Gb] at ha;subst ha
    obtain⟨cs,hcs,_,_,h3,_⟩:=hl i T hi
    obtain⟨r,h1,_⟩:=h.own.ow i _ hcs
    have hv':tm[i]?=some v:=by simpa using hv
    rw [h1] at hv';injection hv' with hv';subst hv'
    simp only [af]
    exact⟨r,0,T,1,0,0,[],rfl,yB h.own hl ⟨i,hi,bP h1⟩,by simp,by omega,by simp,by simp⟩
   | none=>
    rw [hi] at ha;simp only [Gb] at ha
    cases hf:ru u with
    | true=>
     rw [hf] at ha;simp only at ha;subst ha
     obtain⟨v',hv',hr⟩:=h.tl.get ht
     rw [hv] at hv';injection hv' with hv';subst hv'
     exact tK hf hr
    | false=>rw [hf] at ha;simp only at ha;subst ha;simp only [af]
 ·have:=no hd;cases this
 ·have:=no hd;cases this
 ·have:=no he;cases this
 ·by_cases q:∃T,iN tm es r T
  ·obtain⟨T,q⟩:=q
   rw [yB h.own hl q] at hr
   injection hr with hr;subst hr
   obtain⟨_,_,_,_,h6,_,C,ty,h5,hC,h7,h8⟩:=pz h.own hl q
   have h9:=Vl hk h6.1 h8
   refine⟨_,h5,C,ty,rfl,by omega,h7,fun i a hi ha=>?_⟩
   rw [Nat.mod_eq_of_lt (by omega)] at ha
   obtain⟨v,hv,hr⟩:=h9.get ha
   exact⟨v,by simpa using hv,hr⟩
  ·rw [lU fun T q'=>q ⟨T,q'⟩] at hr
   obtain⟨q1,T,m,rfl,hT⟩:=jS hr
   obtain⟨o,ho,hB⟩:=h.tw.blk r _ q1
   exact⟨o,ho,Vm hk hT hB⟩
 ·by_cases q:∃T,iN tm es r T
  ·obtain⟨T,q⟩:=q
   exact(pz h.own hl q).2.2.1
  ·rw [lU fun T q'=>q ⟨T,q'⟩] at hr
   exact h.tw.wt r _ (jS hr).1
def pE (b:Bool) (σ σ':TE):TE:=fun r=>match σ r with
 | some B=>some B
 | none=>mi b σ' r
theorem Tc (b:Bool) (σ σ':TE):Ext σ (pE b σ σ'):=fun r B h=>by unfold pE;rw [h]
def LJ (X:Nat->List TV):Cn->List TV->List TV
 | (e,_)::l,t=>LJ X l (t.set e (.ow (X e)))
 | [],t=>t
theorem tN (X:Nat->List TV):∀(es:Cn) (t:List TV),(LJ X es t).length=t.length
 | [],t=>rfl
 | (e,T)::es,t=>by unfold LJ;rw [tN X es];simp
theorem tO (X:Nat->List TV):∀(es:Cn) (t:List TV) (j:Nat),((∀T,(j,T)∉es)/\(LJ X es t)[j]?=t[j]?)\/((∃T,(j,T)∈es)/\(LJ X es t)[j]?=(t[j]?).map fun _=> .ow (X j))
 | [],t,j=> .inl ⟨by simp,rfl⟩
 | (e,T)::es,t,j=>by
  unfold LJ
  rcases tO X es (t.set e (.ow (X e))) j with⟨h1,h2⟩ | ⟨⟨T',h1⟩,h2⟩
  ·by_cases he:j=e
   ·subst he
    refine .inr ⟨⟨T,by simp⟩,?_⟩
    rw [h2,List.getElem?_set_self']
    cases t[j]?<;>rfl
   ·refine .inl ⟨fun T' hm=>?_,by rw [h2,List.getElem?_set_ne (Ne.symm he)]⟩
    rcases List.mem_cons.1 hm with q | q
    ·injection q with q _;exact he q
    ·exact h1 T' q
  ·refine .inr ⟨⟨T',by simp [h1]⟩,?_⟩
   rw [h2]
   by_cases he:j=e
   ·subst he
    rw [List.getElem?_set_self']
    cases t[j]?<;>rfl
   ·rw [List.getElem?_set_ne (Ne.symm he)]
theorem Td (h:Rel P w0 σ g t tm w) (hno:Cj t) {ds:List Nat} (hl:yA b t es) (hm:∀e T,(e,T)∈es↔dC es e=some T) (hap:∀e T,dC es e=some T->e∉ds)
  {σ':TE} {t':List TV} {tm':Array Value} {w':World} (s:Step P w0 (Dw b σ tm es) (fun _=>none) (nC es 0 t) tm w σ' (fun _=>none) t' tm' w') (htm:∀j,j∉ds->tm'[j]?=tm[j]?) (hsz:tm'.size=tm.size):
  ∃X:Nat->List TV,(∀e T,dC es e=some T->UL U0 T (X e))/\Step P w0 σ g t tm w (pE b σ σ') g (LJ X es (kz ds 0 t t')) tm' w':=by
 have hlen:t.length=t'.length:=by
  have a:=h.tl.length
  have b:=s.rel.tl.length
  simp only [Array.length_toList] at a b
  omega
 have hbl:=qO (ds:=ds) t t' 0 hlen
 have hx:=Tc b σ σ'
 have hown0:∀r,¬qZ (nC es 0 t) tm r:=fun r ⟨d,cs,hd,_⟩=>by
  rw [vO] at hd
  cases ht:t[d]? with
  | none=>rw [ht] at hd;cases hd
  | some u=>
   rw [ht] at hd
   simp only [Option.map_some,Option.some.injEq] at hd
   exact Xp (e:=0) (o:=0) hd (.inl rfl)
 have hnot:∀{r:Nat} {B:TB},σ r=some B->∀T,¬iN tm es r T:=fun {r B} hr T q=>by rw [(pz h.own hl q).1] at hr;cases hr
 have Vp:∀r,r < w.heap.size->(∀T,¬iN tm es r T)->mi b σ r=none->w'.heap[r]?=w.heap[r]?/\σ' r=none:=fun r hr hn hσ=>by
  obtain⟨a,b,_⟩:=s.frame r hr (by rw [lU hn];exact hσ) rfl (hown0 r)
  exact⟨a,b⟩
 have Vq:∀r,σ r=none->mi b σ r=none:=fun r hr=>by unfold mi;rw [hr]
 have Oy:∀d,d∉ds->bS tm' d=bS tm d:=fun d hd=>by unfold bS;rw [htm d hd]
 have hback:∀r,σ r=none->σ' r=none->pE b σ σ' r=none:=fun r h1 h2=>by unfold pE;rw [h1];exact(by unfold mi;rw [h2])
 have hk:∀r T m,σ' r=some (.row T m)->rowOk b T=true->pE b σ σ' r=some (.row T m):=fun r T m e2 hT=>by
  unfold pE
  cases vU:σ r with
  | none=>exact Ox e2 hT
  | some B=>
   have hlt:=h.tw.lt vU
   cases WI:mi b σ r with
   | none=>rw [(Vp r hlt (hnot vU) WI).2] at e2;cases e2
   | some B'=>
    have:σ' r=some B':=s.ext _ _ (by rw [lU (hnot vU)];exact WI)
    have hB':=(jS WI).1
    rw [vU] at hB';injection hB' with hB';subst hB'
    rw [e2] at this;exact this.symm
 have ZY:∀e,∃cs:List TV,∀T,dC es e=some T->∃(C:Array Value) (ty:TypeId),w'.heap[bS tm e]?=some (.cells C ty (0,0))/\UL U0 T cs/\ai (pE b σ σ') cs C.toList/\pE b σ σ' (bS tm e)=none:=fun e=>by
  cases he:dC es e with
  | none=>exact⟨[],fun T h=>by cases h⟩
  | some T=>
  have hq:iN tm es (bS tm e) T:=⟨e,he,rfl⟩
  have hσ':σ' (bS tm e)=some (.row T 1):=s.ext _ _ (yB h.own hl hq)
  obtain⟨hσn,_,_,_,h6,h7,_⟩:=pz h.own hl hq
  obtain⟨O,hO,C,ty,rfl,h1,h0,h2⟩:=s.rel.tw.blk _ _ hσ'
  have hrel:ai σ' T C.toList:=ai.of (by simp;omega) fun i a v ha hv=>by
   have hi:i < T.length:=(List.getElem?_eq_some_iff.1 ha).1
   obtain⟨v',hv',hr⟩:=h2 i a (by omega) (by rw [Nat.mod_eq_of_lt hi];exact ha)
   have:C[i]?=some v:=by simpa using hv
   rw [this] at hv';injection hv' with hv';subst hv'
   exact hr
  obtain⟨cs,hu,hc⟩:=LC Ql T _ (Vl hk h6.1 hrel)
  refine⟨cs,fun T' hT'=>?_⟩
  injection hT' with hT';subst hT'
  refine⟨C,ty,hO,hu,hc,?_⟩
  unfold pE;rw [hσn];exact Vk hσ' h6.2
 obtain⟨X,Zc⟩:=Classical.axiomOfChoice ZY
 have hown:∀(d:Nat) (cs:List TV),(LJ X es (kz ds 0 t t'))[d]?=some (.ow cs)->d∉ds/\∃cs0,t[d]?=some (.ow cs0)/\((∃T,dC es d=some T/\cs=X d)\/(dC es d=none/\cs0=cs)):=fun d cs hd=>by
  rcases tO X es (kz ds 0 t t') d with⟨h1,h2⟩ | ⟨⟨T,h1⟩,h2⟩
  ·have hn:dC es d=none:=by
    cases e:dC es d with
    | none=>rfl
    | some T=>exact absurd ((hm d T).2 e) (h1 T)
   rw [h2,pq t t' 0 d hlen,Nat.zero_add] at hd
   cases hh:bK ds d with
   | true=>
    rw [hh] at hd
    simp only at hd
    cases ht:t'[d]? with
    | none=>rw [ht] at hd;cases hd
    | some u=>
     rw [ht] at hd
     simp only [Option.map_some,Option.some.injEq] at hd
     have:=Gz u
     rw [hd] at this;cases this
   | false=>
    rw [hh] at hd
    exact⟨(fun q=>by rw [tL.2 q] at hh;cases hh),cs,hd, .inr ⟨hn,rfl⟩⟩
  ·rw [h2] at hd
   have hT:=(hm d T).1 h1
   obtain⟨cs0,hn,_⟩:=hl d T hT
   cases hb:(kz ds 0 t t')[d]? with
   | none=>rw [hb] at hd;cases hd
   | some u=>
    rw [hb] at hd
    simp only [Option.map_some,Option.some.injEq,TV.ow.injEq] at hd
    exact⟨hap d T hT,_,hn, .inl ⟨T,hT,hd.symm⟩⟩
 have hnotD:∀{d:Nat} {cs:List TV} {r:Nat},t[d]?=some (.ow cs)->bS tm d=r->dC es d=none->∀T,¬iN tm es r T:=fun {d cs r} hd hr hn T ⟨e,he,hr'⟩=>by
  obtain⟨cs',hcs',_⟩:=hl e T he
  have:=h.own.inj e d _ _ hcs' hd (by rw [hr',hr])
  subst this
  rw [he] at hn;cases hn
 refine⟨X,fun e T he=>by obtain⟨_,_,_,q,_⟩:=Zc e T he;exact q,⟨⟨ai.of ?_ fun i a v ha hv=>?_,⟨fun d cs hd=>?_,fun d e cs cs' hd he hr=>?_,fun e d o cs he hd=>?_⟩,⟨fun r B hr=>?_,fun r o hr=>?_,fun r B hr=>?_,fun r o hr=>h.tw.wg r o hr,s.rel.tw.below⟩⟩,hx,s.size,fun r hr h1 h2 h3=>?_⟩⟩
 ·rw [tN,hbl,h.tl.length];simp [hsz]
 ·have hv':tm'[i]?=some v:=by simpa using hv
  rcases tO X es (kz ds 0 t t') i with⟨h1,h2⟩ | ⟨h1,h2⟩
  ·rw [h2,pq t t' 0 i hlen,Nat.zero_add] at ha
   cases hh:bK ds i with
   | true=>
    rw [hh] at ha
    simp only at ha
    cases ht:t'[i]? with
    | none=>rw [ht] at ha;cases ha
    | some u=>
     rw [ht] at ha
     simp only [Option.map_some,Option.some.injEq] at ha
     obtain⟨v2,hv2,hr⟩:=s.rel.tl.get ht
     rw [hv] at hv2;injection hv2 with hv2;subst hv2
     subst ha
     unfold NZ
     cases hf:ru u with
     | true=>exact tK hf hr
     | false=>simp only [af]
   | false=>
    rw [hh] at ha
    have hnd:i∉ds:=fun q=>by rw [tL.2 q] at hh;cases hh
    rw [htm i hnd] at hv'
    obtain⟨v2,hv2,hr⟩:=h.tl.get ha
    have Xq:tm[i]?=some v2:=by simpa using hv2
    rw [hv'] at Xq;injection Xq with Xq;subst Xq
    exact hr.ext hx
  ·rw [h2] at ha
   cases hb:(kz ds 0 t t')[i]? with
   | none=>rw [hb] at ha;cases ha
   | some u=>
    rw [hb] at ha
    simp only [Option.map_some,Option.some.injEq] at ha
    subst ha
    simp only [af]
 ·obtain⟨hnd,cs0,ZZ,hq⟩:=hown d cs hd
  clear hd
  rcases hq with⟨T,hT,rfl⟩ | ⟨hd,rfl⟩
  ·obtain⟨C,ty,hO,_,hr,hb⟩:=Zc d T hT
   obtain⟨r,h1,h2,h3,h4,_⟩:=h.own.ow d _ ZZ
   rw [bP h1] at hO hb
   exact⟨r,by rw [htm d hnd];exact h1,hb,h3,h4,_,ty,hO,hr⟩
  ·obtain⟨r,h1,h2,h3,h4,C,ty,h5,h6⟩:=h.own.ow d _ ZZ
   have hnl:=hnotD ZZ (bP h1) hd
   obtain⟨k1,k2⟩:=Vp r (Array.getElem?_eq_some_iff.1 h5).1 hnl (Vq r h2)
   exact⟨r,by rw [htm d hnd];exact h1,hback r h2 k2,h3,h4,C,ty,by rw [k1];exact h5,ai.ext hx _ _ h6⟩
 ·obtain⟨n1,c1,q1,_⟩:=hown d cs hd
  obtain⟨n2,c2,q2,_⟩:=hown e cs' he
  rw [Oy d n1,Oy e n2] at hr
  exact h.own.inj d e _ _ q1 q2 hr
 ·exfalso
  rcases tO X es (kz ds 0 t t') e with⟨h1,h2⟩ | ⟨h1,h2⟩
  ·rw [h2,pq t t' 0 e hlen,Nat.zero_add] at he
   cases hh:bK ds e with
   | true=>
    rw [hh] at he
    simp only at he
    cases ht:t'[e]? with
    | none=>rw [ht] at he;cases he
    | some u=>
     rw [ht] at he
     simp only [Option.map_some,Option.some.injEq] at he
     have:=Gz u
     rw [he] at this;cases this
   | false=>
    rw [hh] at he
    exact hno e d o he
  ·rw [h2] at he
   cases hb:(kz ds 0 t t')[e]? with
   | none=>rw [hb] at he;cases he
   | some u=>
    rw [hb] at he
    simp only [Option.map_some,Option.some.injEq] at he
    cases he
 ·unfold pE at hr
  cases vU:σ r with
  | none=>
   rw [vU] at hr
   obtain⟨q1,T,m,rfl,hT⟩:=jS hr
   obtain⟨O,hO,hB⟩:=s.rel.tw.blk r _ q1
   exact⟨O,hO,Vm hk hT hB⟩
  | some B0=>
   rw [vU] at hr
   injection hr with hr;subst hr
   have hlt:=h.tw.lt vU
   cases WI:mi b σ r with
   | none=>
    obtain⟨O,hO,hB⟩:=h.tw.blk r _ vU
    exact⟨O,by rw [(Vp r hlt (hnot vU) WI).1];exact hO,hB.ext hx⟩
   | some B'=>
    obtain⟨q1,T,m,rfl,hT⟩:=jS WI
    rw [vU] at q1;injection q1 with q1;subst q1
    obtain⟨O,hO,hB⟩:=s.rel.tw.blk r _ (s.ext _ _ (by rw [lU (hnot vU)];exact WI))
    exact⟨O,hO,Vm hk hT hB⟩
 ·obtain⟨q1,O,hO,hr'⟩:=h.tw.obj r o hr
  have hnl:∀T,¬iN tm es r T:=fun T q=>by rw [(pz h.own hl q).2.1] at hr;cases hr
  obtain⟨k1,k2⟩:=Vp r (h.tw.Ya hr) hnl (Vq r q1)
  exact⟨hback r q1 k2,O,(by rw [k1];exact hO),hr'.ext hx⟩
 ·unfold pE at hr
  cases vU:σ r with
  | none=>rw [vU] at hr;exact s.rel.tw.wt r _ (jS hr).1
  | some B0=>exact h.tw.wt r _ vU
 ·have hnl:∀T,¬iN tm es r T:=fun T ⟨e,he,hr⟩=>by
   obtain⟨cs,hn,_⟩:=hl e T he
   exact h3 ⟨e,_,hn,hr⟩
  obtain⟨k1,k2⟩:=Vp r hr hnl (Vq r h1)
  refine⟨k1,hback r h1 k2,h2,fun⟨d,cs,hd,hr⟩=>?_⟩
  obtain⟨n1,c1,q1,_⟩:=hown d cs hd
  exact h3 ⟨d,c1,q1,by rw [<- Oy d n1];exact hr⟩
end
theorem vP:∀(l:List Oper) (xs:List Value) (a:Act),(tH a l xs).tmps.size=a.tmps.size
 | [],_,a=>rfl
 | o::l,x::xs,a=>by
  unfold tH
  rw [vP l xs]
  cases o.dst with
  | none=>rfl
  | some d=>show(a.tmps.setIfInBounds d x).size=_;simp
 | o::l,[],a=>by unfold tH;exact vP l [] a
theorem Dx {S:Nat}:∀{l:List Nat} {K:Prop},zU S l K↔(∀d∈l,Nat.testBit S d=true)/\K
 | [],K=>by simp [zU]
 | d::l,K=>by
  unfold zU
  rw [bV,Dx]
  constructor
  ·rintro⟨h1,h2,h3⟩
   refine⟨fun e he=>?_,h3⟩
   rcases List.mem_cons.1 he with rfl | he
   ·exact h1
   ·exact h2 e he
  ·rintro⟨h1,h2⟩
   exact⟨h1 d (by simp),fun e he=>h1 e (by simp [he]),h2⟩
theorem Kt {S:Nat} {k:List TV->Prop} (X:Nat->List TV):∀{es:Cn} {t:List TV},U1 S k es t->(∀e T,(e,T)∈es->UL U0 T (X e))->(∀e T,(e,T)∈es->Nat.testBit S e=true)/\k (LJ X es t)
 | [],t,h,_=>⟨by simp,h⟩
 | (e,T)::es,t,h,hx=>by
  obtain⟨h1,h2⟩:=bV.1 h
  have h2:=(o8 Ql T _).1 h2 (X e) (hx e T (by simp))
  rw [fV,bH] at h2
  obtain⟨h3,h4⟩:=Kt X h2 fun e' T' he'=>hx e' T' (by simp [he'])
  refine⟨fun d T' hd=>?_,h4⟩
  rcases List.mem_cons.1 hd with hd | hd
  ·injection hd with hd _;subst hd;exact h1
  ·exact h3 d T' hd
variable {X:Nat->Option XK} {Y:iM} {SP:Spec} {an:Nat->Option (List TV)}
theorem Oz {b:Bool} {S id:Nat} {ops:Array Oper} {es:Cn} {Q:List TV->Prop} {t:List TV} {d:List Nat} {g:G} (hX:∀f x,X f=some x->C8 P f x) (hY:ky P w0 Y) (hSP:r9 P w0 SP) (hno:Cj t) (h:U2 X Y SP an b S ops.toList es Q t):
  TA P w0 ro (.region id ops false) (fun e s'=>e= .normal/\Q s'.t/\o9 S t s'.t/\s'.d=d/\s'.g=g) ⟨t,d,g⟩:=by
 unfold U2 at h
 split at h
 ·exact h.elim
 ·rename_i hb
  simp only [Bool.and_eq_true] at hb
  obtain⟨⟨hng,hfree⟩,hap⟩:=hb
  split at h
  ·exact h.elim
  ·rename_i c L hc
   obtain⟨hc1,h⟩:=fZ.1 h
   obtain⟨hbits,h⟩:=Dx.1 h
   obtain⟨hl,hin,hm⟩:=Kq hc hc1
   have hap:∀e T,dC L e=some T->e∉dstsOf ops.toList:=fun e T he=>Kr hap e (hin e T he)
   refine .of fun σ a w m=>?_
   have r0:=Vo m.rel hl
   have hops:=gm (P:=P) (w0:=w0) (ro:=ro) hX hY hSP (g:=fun _=>none) (o9.refl _ (nC L 0 t)) h
   refine wpIn_region (aQ.puts (σ0:=Dw b σ a.tmps L) (g0:=fun _=>none) (t0:=nC L 0 t) (a0:=a) (w1:=w) ?_ ops.toList 0 _ _ _ a w hng rfl (fun xs=>⟨xs,rfl⟩) hops (Step.refl r0))
   rintro t' g' σ' w' xs ⟨hq,_,rfl⟩ s
   obtain⟨X,hX,hs⟩:=Td m.rel hno hl hm hap s (fun j hj=>qN _ _ _ hj) (vP _ _ _)
   obtain⟨he,hk⟩:=Kt X hq fun e T hT=>hX e T ((hm e T).1 hT)
   have hlen:t.length=t'.length:=by
    have a1:=m.rel.tl.length
    have b1:=s.rel.tl.length
    have c1:=vP ops.toList xs a
    simp only [Array.length_toList] at a1 b1
    omega
   refine⟨⟨_,d,g⟩,pE b σ σ',⟨rfl,hk,?_,rfl,rfl⟩,hs,by rw [nE];exact m.d⟩
   refine⟨by rw [tN,qO _ _ _ hlen],fun j hj=> .inl ?_⟩
   rcases tO X L (kz (dstsOf ops.toList) 0 t t') j with⟨h1,h2⟩ | ⟨⟨T,h1⟩,h2⟩
   ·rw [h2,pq t t' 0 j hlen,Nat.zero_add]
    cases hh:bK (dstsOf ops.toList) j with
    | true=>rw [hbits j (tL.1 hh)] at hj;cases hj
    | false=>rfl
   ·rw [he j T h1] at hj;cases hj
end
end Go.TM
namespace Go.TM
open Go Go.RowKit Go.AM
section
variable {P:Program} {w0:World} {X:Nat->Option XK} {Y:iM} {SP:Spec} {IT:rq} {an:Nat->Option (List TV)} {iv:Nat->Option LI}
structure RS (g0:G) (d:List Nat) (g:G):Prop where
 nd:d.Nodup
 dm:∀r∈d,g r=some .ng/\g0 r=none
 le:∀r o,g0 r=some o->g r=some o
def Nx (g0:G) (d:List Nat) (g:G) (d':List Nat) (g':G):Option Nat->Prop
 | none=>RS g0 d' g'
 | some _=>d'=d/\g'=g
def Ok (g0:G) (d:List Nat) (g:G):Option Nat->Prop
 | none=>RS g0 d g
 | some _=>True
theorem Ok.nx {g0:G} {d:List Nat} {g:G} {ro:Option Nat} (h:Ok g0 d g ro):Nx g0 d g d g ro:=by
 cases ro with
 | none=>exact h
 | some l=>exact⟨rfl,rfl⟩
theorem Nx.ok {g0:G} {d d':List Nat} {g g':G} {ro:Option Nat} (h:Nx g0 d g d' g' ro):Ok g0 d' g' ro:=by
 cases ro with
 | none=>exact h
 | some l=>trivial
theorem Nx.trans {g0:G} {d d' d2:List Nat} {g g' g2:G} {ro:Option Nat} (h:Nx g0 d g d' g' ro) (k:Nx g0 d' g' d2 g2 ro):Nx g0 d g d2 g2 ro:=by
 cases ro with
 | none=>exact k
 | some l=>exact⟨k.1.trans h.1,k.2.trans h.2⟩
def Full (ro:Option Nat) (g0:G) (S:Nat) (s:St) (Q:Exit->List TV->Prop) (e:Exit) (s':St):Prop:=
 Q e s'.t/\o9 S s.t s'.t/\Nx g0 s.d s.g s'.d s'.g ro
def LK (P:Program) (w0:World) (X:Nat->Option XK) (Y:iM) (SP:Spec) (an:Nat->Option (List TV)):Prop:=
 ∀(ro:Option Nat) (S id:Nat) (ops:Array Oper) (Q:List TV->Prop) (t:List TV) (d:List Nat) (g:G),Qa ops.toList=true->Cj t->zT X Y SP an S ops.toList (guards ops.toList ops.toList) Q ops.toList t->
  TA P w0 ro (.region id ops true) (fun e s'=>e= .normal/\Q s'.t/\o9 S t s'.t/\s'.d=d/\s'.g=g) ⟨t,d,g⟩
def Ac (P:Program) (w0:World) (l:Nat) (r:wQ) (g:G) (J:Exit->Prop) (args:List TV):Prop:=
 args.length=r.params.size/\TA P w0 (some l) r.assign (fun e s1=>e= .normal/\s1.g=g/\TA P w0 (some l) r.body (fun e s2=>J e/\s2.g=G.put g l (.loop {r with state:= .busy})) ⟨s1.t,s1.d,G.put g l (.loop {r with state:= .busy})⟩) ⟨gp r.params.toList args r.tmps,[],g⟩
def nG (l:Nat) (r:wQ) (g:G) (J:Exit->Prop) (_:TV) (g':G):Prop:=
 ∃st j,st≠ .busy/\g'=G.put g l (.loop {r with state:=st,pending:=j})/\match j with
  | none=>True
  | some c=>∃e,J e/\AM.Exit.jump e=some (some c)
def au (P:Program) (w0:World) (IT:rq):Prop:=∀f cs K,IT f cs K->Goes P f/\∀l g r J,(∀e,J e->∃j,AM.Exit.jump e=some j)->g l=some (.loop r)->r.state= .ready->r.pending=none->(∀{d:Nat} {v:TV},r.tmps[d]?=some v->v.plain=true)->
 (∀args,K args->Ac P w0 l r g J args)->av P w0 f (.y l::cs) g (nG l r g J)
theorem GA:∀{l:List Nat} {d:Nat},d∉l->Nat.testBit (mask l) d=false
 | [],d,_=>by simp [mask]
 | a::l,d,h=>by
  have e:Nat.testBit (mask (a::l)) d=(decide (a=d)||Nat.testBit (mask l) d):=by
   show Nat.testBit (Nat.lor (Nat.shiftLeft 1 a) (mask l)) d=_
   rw [show Nat.lor (Nat.shiftLeft 1 a) (mask l)=(1 <<< a)||| mask l from rfl,Nat.testBit_or]
   congr 1
   rw [Nat.one_shiftLeft,Nat.testBit_two_pow]
  rw [e,GA (fun q=>h (by simp [q]))]
  simp only [Bool.or_false,decide_eq_false_iff_not]
  intro q;exact h (by simp [q])
theorem o9.weak {S S':Nat} {t t':List TV} (h:o9 S t t') (k:∀d,Nat.testBit S' d=false->Nat.testBit S d=false):o9 S' t t':=⟨h.1,fun d hd=>h.2 d (k d hd)⟩
theorem Te {L:LI} {ss:List Nat} {xs:List Int} {t:List TV} {S:Nat} (hi:o5 ss L.NS=true) (hs:∀d∈ss,Nat.testBit S d=true):o9 S t (wT L ss xs t):=
 ⟨Kn L ss xs t,fun d hd=> .inl (Dv hi fun q=>by rw [hs d q] at hd;cases hd)⟩
theorem GD:∀(ps:List Nat) (args t:List TV) (k:List TV->Prop),Fj ps args t k=k (gp ps args t)
 | [],args,t,k=>by cases args<;>rfl
 | p::ps,[],t,k=>rfl
 | p::ps,a::args,t,k=>by
  show fU a (fun a=>dK a t p fun t=>Fj ps args t k)=_
  rw [gK,bH,GD ps];rfl
theorem GG {t:List TV} {d:Nat} {v:TV} (h:(hide t)[d]?=some v):v.plain=true:=by
 unfold hide at h
 rw [List.getElem?_map] at h
 cases q:t[d]? with
 | none=>rw [q] at h;cases h
 | some u=>
  rw [q] at h
  simp only [Option.map_some,Option.some.injEq] at h
  subst h
  exact lT u
theorem OA {ro:Option Nat} {g0:G} {S:Nat} {L:LI} {ss nm:List Nat} {a:Code} {Q:Exit->List TV->Prop} {s:St} (hok:Ok g0 s.d s.g ro) (hs:∀d∈ss,Nat.testBit S d=true)
  (ih:∀(S:Nat) (Q:Exit->List TV->Prop) (s:St),Ok g0 s.d s.g ro->wp X Y SP IT an iv a S Q s.t->TA P w0 ro a (Full ro g0 S s Q) s)
  (h:U6 an S L ss nm (fun S Q t=>wp X Y SP IT an iv a S Q t) Q s.t):TA P w0 ro (.loop a) (Full ro g0 S s Q) s:=by
 obtain⟨t,d,g⟩:=s
 unfold U6 at h
 cases hin:o5 ss L.NS with
 | false=>rw [hin] at h;exact h.elim
 | true=>
 rw [hin] at h
 obtain⟨t1,h1,h2,h⟩:=jR (P:=P) (w0:=w0) h
 rw [z8] at h
 have hsil:Fs P w0 t (zZ t1):=h1.trans (LH t1).jo
 have hag:o9 S t (zZ t1):=h2.LD.trans (Gt S t1)
 have hno:=Cm t1
 generalize zZ t1=t2 at h hsil hag hno
 clear h1 h2
 cases hx:zP t2 L.NS with
 | none=>rw [hx] at h;exact h.elim
 | some cx=>
  obtain⟨c,xs⟩:=cx
  rw [hx] at h
  obtain⟨hc,hpre,hall⟩:=fZ.1 h
  have hnat:=Ou hin
  have hbody:∀ys:List Int,ys.length=UX L.NS->L.pre ys->wp X Y SP IT an iv a (mask ss) (Gc (Xd L ys) Q) (wT L ss ys t2):=fun ys hl hp=>Ta (Gv hall ys hl hp)
  obtain⟨hxl,hw⟩:=tC hx hc hnat (Ow (l:=ss) (Ja.refl hno))
  have hent:Fs P w0 t2 (wT L ss xs t2):=hw.jo
  refine TA.jo (hsil.trans hent) ?_
  have hmS:∀d,Nat.testBit S d=false->Nat.testBit (mask ss) d=false:=fun d hd=>GA fun q=>by rw [hs d q] at hd;cases hd
  refine TA.loop (fun n s'=>∃ys,ys.length=UX L.NS/\L.pre ys/\n=(L.meas ys+1).toNat/\Fs P w0 s'.t (wT L ss ys t2)/\Nx g0 d g s'.d s'.g ro) (n0:=(L.meas xs+1).toNat) ⟨xs,hxl,hpre,rfl,Fs.refl _,hok.nx⟩ ?_
  rintro n ⟨t3,d3,g3⟩ ⟨ys,hl,hp,rfl,hk,hn⟩
  have hw:=hbody ys hl hp
  refine TA.jo hk ((ih (mask ss) _ ⟨wT L ss ys t2,d3,g3⟩ hn.ok hw).mono ?_)
  rintro e ⟨t4,d4,g4⟩ ⟨q1,q2,q3⟩
  have hfull:∀e,Q e t4->Full ro g0 S ⟨t,d,g⟩ Q e ⟨t4,d4,g4⟩:=fun e hq=>⟨hq,(hag.trans (Te hin hs)).trans (q2.weak hmS),hn.trans q3⟩
  cases e with
  | normal=>
   have hend:Xd L ys t4:=q1
   unfold Xd at hend
   cases hz:zP t4 L.NS with
   | none=>rw [hz] at hend;exact hend.elim
   | some cz=>
    obtain⟨c2,zs⟩:=cz
    rw [hz] at hend
    obtain⟨hc2,m1,m2,m3⟩:=fZ.1 hend
    have hb:Ja t4 (pg ss t2):=Xn (by rw [q2.1,Kn]) hno fun e he=>by
     have ho:=Dv (xs:=ys) (t:=t2) hin he
     rcases q2.2 e (GA he) with k | ⟨f,o,k,_⟩
     ·rw [k,ho]
     ·rw [ho] at k;exact absurd k (hno e f o)
    obtain⟨hzl,hw2⟩:=tC hz hc2 hnat hb
    exact⟨(L.meas zs+1).toNat,by omega,zs,hzl,m3,rfl,hw2.jo,hn.trans q3⟩
  | exit j=>exact hfull _ q1
  | goto j=>exact hfull _ q1
  | ret=>exact hfull _ q1
  | panic c=>exact hfull _ q1
  | outgrown=>exact hfull _ q1
theorem Tf {ro:Option Nat} {g0:G} {S m:Nat} {a:Code} {Q:Exit->List TV->Prop} {s:St} (hok:Ok g0 s.d s.g ro)
  (ih:∀(Q:Exit->List TV->Prop) (s:St),Ok g0 s.d s.g ro->wp X Y SP IT an iv a S Q s.t->TA P w0 ro a (Full ro g0 S s Q) s)
  (h:wUn (fun Q t=>wp X Y SP IT an iv a S Q t) Q m s.t):TA P w0 ro (.loop a) (Full ro g0 S s Q) s:=by
 refine TA.loop (fun n s'=>wUn (fun Q t=>wp X Y SP IT an iv a S Q t) Q n s'.t/\o9 S s.t s'.t/\Nx g0 s.d s.g s'.d s'.g ro) (n0:=m) ⟨h,o9.refl _ _,hok.nx⟩ ?_
 rintro n s3 ⟨hw,hag,hn⟩
 cases n with
 | zero=>exact hw.elim
 | succ n=>
  refine(ih _ s3 hn.ok hw).mono ?_
  rintro e s4 ⟨q1,q2,q3⟩
  have hfull:∀e,Q e s4.t->Full ro g0 S s Q e s4:=fun e hq=>⟨hq,hag.trans q2,hn.trans q3⟩
  cases e with
  | normal=>exact⟨n,Nat.lt_succ_self n,q1,hag.trans q2,hn.trans q3⟩
  | exit j=>exact hfull _ q1
  | goto j=>exact hfull _ q1
  | ret=>exact hfull _ q1
  | panic c=>exact hfull _ q1
  | outgrown=>exact hfull _ q1
theorem Full.block {ro:Option Nat} {g0:G} {S i:Nat} {s:St} {Q:Exit->List TV->Prop} {e:Exit} {s':St} (h:Full ro g0 S s (sZ i Q) e s'):ik i (Full ro g0 S s Q) e s':=by
 obtain⟨h1,h2,h3⟩:=h
 cases e with
 | exit j=>
  simp only [sZ] at h1
  simp only [ik]
  split at h1
  ·rename_i q
   rw [if_pos (Nat.eq_of_beq_eq_true q)];exact⟨h1,h2,h3⟩
  ·rename_i q
   rw [if_neg (fun e=>by subst e;rw [Nat.beq_refl] at q;cases q)];exact⟨h1,h2,h3⟩
 | normal=>exact⟨h1,h2,h3⟩
 | goto j=>exact⟨h1,h2,h3⟩
 | ret=>exact⟨h1,h2,h3⟩
 | panic c=>exact⟨h1,h2,h3⟩
 | outgrown=>exact⟨h1,h2,h3⟩
theorem Full.step {ro:Option Nat} {g0:G} {S:Nat} {s s1 s2:St} {Q:Exit->List TV->Prop} {e:Exit} (h1:o9 S s.t s1.t) (h2:Nx g0 s.d s.g s1.d s1.g ro) (h:Full ro g0 S s1 Q e s2):Full ro g0 S s Q e s2:=
 ⟨h.1,h1.trans h.2.1,h2.trans h.2.2⟩
theorem LM {g0:G} {S:Nat} {ps:Array Tmp} {nm:List Nat} {SQ body:Code} {Q:Exit->List TV->Prop} {g:Operand} {s:St} (hok:RS g0 s.d s.g) (hIT:au P w0 IT)
  (ia:∀(l:Nat) (Q:Exit->List TV->Prop) (s:St),wp X Y SP IT an iv SQ S Q s.t->TA P w0 (some l) SQ (Full (some l) g0 S s Q) s)
  (ib:∀(l:Nat) (Q:Exit->List TV->Prop) (s:St),wp X Y SP IT an iv body S Q s.t->TA P w0 (some l) body (Full (some l) g0 S s Q) s)
  (h:U8 IT an S ps nm (fun Q t=>wp X Y SP IT an iv SQ S (Gc (fun t=>wp X Y SP IT an iv body S Q t) (fun _ _=>False)) t) Q g s.t):TA P w0 none (.rangeFunc g ps SQ body) (Full none g0 S s Q) s:=by
 obtain⟨t,d,gg⟩:=s
 obtain⟨t1,h1,h2,h⟩:=jR (P:=P) (w0:=w0) h
 refine TA.jo h1 ?_
 split at h
 ·rename_i f cs hg
  obtain⟨h,hq⟩:=h
  obtain⟨hgo,hc⟩:=hIT _ _ _ h
  refine TA.zD hg hgo (fun l df hl hdf hne hdd=>?_) (fun r hr=>by rw [(hok.dm r hr).1];simp)
  let r:wQ:=fH t1 ps SQ body df
  have hin:(G.put (G.put gg df .ng) l (.loop r)) l=some (.loop r):=by simp [G.put]
  refine av.mono (hc l (G.put (G.put gg df .ng) l (.loop r)) r (fun e=>U7 Q t1 e []) (fun e he=>by cases e<;>first | exact⟨_,rfl⟩ | exact he.elim) hin rfl rfl (fun hv=>GG hv) fun args ha=>?_) ?_
  ·obtain⟨hlen,hb⟩:=ha
   rw [Oo,GD] at hb
   refine⟨hlen,(ia l _ ⟨gp r.params.toList args r.tmps,[],G.put (G.put gg df .ng) l (.loop r)⟩ hb).mono ?_⟩
   rintro e ⟨t2,d2,g2⟩ ⟨q1,q2,q3,q4⟩
   cases e with
   | normal=>
    refine⟨rfl,q4,(ib l _ ⟨t2,d2,G.put (G.put (G.put gg df .ng) l (.loop r)) l (.loop {r with state:= .busy})⟩ q1).mono ?_⟩
    rintro e ⟨t3,d3,g3⟩ ⟨k1,k2,k3,k4⟩
    refine⟨?_,k4⟩
    cases e<;>exact k1
   | exit j=>exact q1.elim
   | goto j=>exact q1.elim
   | ret=>exact q1.elim
   | panic c=>exact q1.elim
   | outgrown=>exact q1.elim
  ·rintro v g2 ⟨st,j,hst,rfl,hj⟩
   refine⟨{r with state:=st,pending:=j},by simp [G.put],hst,?_⟩
   have Vr:RS g0 (df::d) (G.put (G.put (G.put (G.put gg df .ng) l (.loop r)) l (.loop {r with state:=st,pending:=j})) l (.loop {r with state:= .exhausted,pending:=j})):=by
    refine⟨List.nodup_cons.2 ⟨hdd,hok.nd⟩,fun x hx=>?_,fun x o hx=>?_⟩
    ·rcases List.mem_cons.1 hx with rfl | hx
     ·refine⟨by simp [G.put,Ne.symm hne],?_⟩
      cases e:g0 x with
      | none=>rfl
      | some o=>rw [hok.le x o e] at hdf;cases hdf
     ·obtain⟨e1,e2⟩:=hok.dm x hx
      refine⟨?_,e2⟩
      have n1:x≠l:=by intro q;subst q;rw [hl] at e1;cases e1
      have n2:x≠df:=fun q=>hdd (q▸hx)
      have e3:gg x=some .ng:=e1
      simp [G.put,n1,n2,e3]
    ·have e1:=hok.le x o hx
     have n1:x≠l:=by intro q;subst q;rw [hl] at e1;cases e1
     have n2:x≠df:=by intro q;subst q;rw [hdf] at e1;cases e1
     have e3:gg x=some o:=e1
     simp [G.put,n1,n2,e3]
   cases j with
   | none=>exact⟨hq,h2.LD,Vr⟩
   | some c=>
    obtain⟨e,he,hj⟩:=hj
    cases e with
    | normal=>cases hj
    | exit i=>
     injection hj with hj;injection hj with hj;subst hj
     exact TA.exit ⟨he,h2.LD,Vr⟩
    | ret=>
     injection hj with hj;injection hj with hj;subst hj
     exact TA.ret ⟨he,h2.LD,Vr⟩
    | goto i=>exact he.elim
    | panic c=>exact he.elim
    | outgrown=>exact he.elim
 ·exact h.elim
theorem Full.then {ro:Option Nat} {g0:G} {S:Nat} {s:St} {K:List TV->Prop} {J:St->Prop} {Q:Exit->List TV->Prop} {e:Exit} {s':St} (h:Full ro g0 S s (Gc K Q) e s') (hn:K s'.t->o9 S s.t s'.t->Nx g0 s.d s.g s'.d s'.g ro->J s'):thenS J (Full ro g0 S s Q) e s':=by
 obtain⟨h1,h2,h3⟩:=h
 cases e with
 | normal=>exact hn h1 h2 h3
 | exit j=>exact⟨h1,h2,h3⟩
 | goto j=>exact⟨h1,h2,h3⟩
 | ret=>exact⟨h1,h2,h3⟩
 | panic c=>exact⟨h1,h2,h3⟩
 | outgrown=>exact⟨h1,h2,h3⟩
theorem Full.scope {ro:Option Nat} {g0:G} {S:Nat} {s:St} {Q:Exit->List TV->Prop} {e:Exit} {s':St} (h:Full ro g0 S s (RP Q) e s'):Fa (Full ro g0 S s Q) e s':=by
 obtain⟨h1,h2,h3⟩:=h
 cases e with
 | goto j=>exact h1
 | normal=>exact⟨h1,h2,h3⟩
 | exit j=>exact⟨h1,h2,h3⟩
 | ret=>exact⟨h1,h2,h3⟩
 | panic c=>exact⟨h1,h2,h3⟩
 | outgrown=>exact⟨h1,h2,h3⟩
theorem bB (hX:∀f x,X f=some x->C8 P f x) (hY:ky P w0 Y) (hSP:r9 P w0 SP) (hIT:au P w0 IT) (hD:LK P w0 X Y SP an):∀(c:Code) (ro:Option Nat) (g0:G) (S:Nat) (Q:Exit->List TV->Prop) (s:St),(ro=none\/fe c=true)->Ok g0 s.d s.g ro->
  wp X Y SP IT an iv c S Q s.t->TA P w0 ro c (Full ro g0 S s Q) s
 | .skip,ro,g0,S,Q,s,hro,hok,h=>TA.skip ⟨h,o9.refl _ _,hok.nx⟩
 | .label l,ro,g0,S,Q,s,hro,hok,h=>TA.label ⟨h,o9.refl _ _,hok.nx⟩
 | .ret,ro,g0,S,Q,s,hro,hok,h=>TA.ret ⟨h,o9.refl _ _,hok.nx⟩
 | .exit i,ro,g0,S,Q,s,hro,hok,h=>TA.exit ⟨h,o9.refl _ _,hok.nx⟩
 | .goto l,ro,g0,S,Q,s,hro,hok,h=>h.elim
 | .seq a b,ro,g0,S,Q,s,hro,hok,h=>by
  have hn:(ro=none\/fe a=true)/\(ro=none\/fe b=true):=by
   rcases hro with e | e
   ·exact⟨.inl e, .inl e⟩
   ·simp only [fe,Bool.and_eq_true] at e
    exact⟨.inr e.1, .inr e.2⟩
  exact TA.seq ((bB hX hY hSP hIT hD a ro g0 S _ s hn.1 hok h).mono fun e s' hf=>hf.then fun k q1 q2=>(bB hX hY hSP hIT hD b ro g0 S Q s' hn.2 q2.ok k).mono fun e2 s2 h2=>h2.step q1 q2)
 | .cond c a b,ro,g0,S,Q,s,hro,hok,h=>by
  have hn:(ro=none\/fe a=true)/\(ro=none\/fe b=true):=by
   rcases hro with e | e
   ·exact⟨.inl e, .inl e⟩
   ·simp only [fe,Bool.and_eq_true] at e
    exact⟨.inr e.1, .inr e.2⟩
  simp only [wp] at h
  split at h
  ·rename_i e
   refine TA.cond (by rw [e];rfl) (fun q=>bB hX hY hSP hIT hD a ro g0 S Q s hn.1 hok h) (fun q=>?_)
   rw [e] at q;cases q
  ·rename_i e
   refine TA.cond (by rw [e];rfl) (fun q=>?_) (fun q=>bB hX hY hSP hIT hD b ro g0 S Q s hn.2 hok h)
   rw [e] at q;cases q
  ·rename_i e
   exact TA.cond (by rw [e];rfl) (fun q=>bB hX hY hSP hIT hD a ro g0 S Q s hn.1 hok h.1) (fun q=>bB hX hY hSP hIT hD b ro g0 S Q s hn.2 hok h.2)
  ·rename_i p e
   refine TA.cond (by rw [e];rfl) (fun q=>?_) (fun q=>?_)
   ·rw [e] at q;exact bB hX hY hSP hIT hD a ro g0 S Q s hn.1 hok (h.1 q)
   ·rw [e] at q;exact bB hX hY hSP hIT hD b ro g0 S Q s hn.2 hok (h.2 q)
  ·exact h.elim
 | .scope a,ro,g0,S,Q,s,hro,hok,h=>TA.scope ((bB hX hY hSP hIT hD a ro g0 S _ s hro hok h).mono fun e s' hf=>hf.scope)
 | .region id ops dr,ro,g0,S,Q,s,hro,hok,h=>by
  obtain⟨t,d,g⟩:=s
  simp only [wp] at h
  split at h
  ·split at h
   ·rw [z8] at h
    refine TA.jo (LH t).jo ((Oz hX hY hSP (d:=d) (g:=g) (Cm t) h).mono ?_)
    rintro e ⟨t',d',g'⟩ ⟨rfl,k1,k2,rfl,rfl⟩
    exact⟨k1,(Gt S t).trans k2,hok.nx⟩
   ·exact h.elim
  obtain⟨t1,h1,h2,h⟩:=jR (P:=P) (w0:=w0) h
  refine TA.jo h1 ?_
  cases dr with
  | false=>
   simp only at h
   exact TA.region ((gm hX hY hSP (g:=g) (o9.refl S t1) h).mono fun t' g' ⟨k1,k2,k3⟩=>⟨k1,h2.LD.trans k2,by subst k3;exact hok.nx⟩)
  | true=>
   simp only at h
   split at h
   ·rename_i hd
    rw [z8] at h
    refine TA.jo (LH t1).jo ((hD ro S id ops _ (zZ t1) d g hd (Cm t1) h).mono ?_)
    rintro e ⟨t',d',g'⟩ ⟨rfl,k1,k2,rfl,rfl⟩
    exact⟨k1,(h2.LD.trans (Gt S t1)).trans k2,hok.nx⟩
   ·exact h.elim
 | .loop a,ro,g0,S,Q,s,hro,hok,h=>h.elim
 | .block i (.loop a),ro,g0,S,Q,s,hro,hok,h=>by
  simp only [wp] at h
  split at h
  ·rename_i L hL
   split at h
   rotate_left
   ·exact TA.block ((Tf hok (fun Q s hok h=>bB hX hY hSP hIT hD a ro g0 S Q s hro hok h) h).mono fun e s' hf=>hf.block)
   split at h
   ·exact h.elim
   obtain⟨_,h⟩:=fZ.1 h
   obtain⟨hb,h⟩:=Ko h
   exact TA.block ((OA hok hb (fun S Q s hok h=>bB hX hY hSP hIT hD a ro g0 S Q s hro hok h) h).mono fun e s' hf=>hf.block)
  ·exact h.elim
 | .block i .skip,ro,g0,S,Q,s,hro,hok,h=>TA.block ((bB hX hY hSP hIT hD .skip ro g0 S _ s hro hok h).mono fun e s' hf=>hf.block)
 | .block i (.label l),ro,g0,S,Q,s,hro,hok,h=>TA.block ((bB hX hY hSP hIT hD (.label l) ro g0 S _ s hro hok h).mono fun e s' hf=>hf.block)
 | .block i .ret,ro,g0,S,Q,s,hro,hok,h=>TA.block ((bB hX hY hSP hIT hD .ret ro g0 S _ s hro hok h).mono fun e s' hf=>hf.block)
 | .block i (.exit j),ro,g0,S,Q,s,hro,hok,h=>TA.block ((bB hX hY hSP hIT hD (.exit j) ro g0 S _ s hro hok h).mono fun e s' hf=>hf.block)
 | .block i (.goto l),ro,g0,S,Q,s,hro,hok,h=>TA.block ((bB hX hY hSP hIT hD (.goto l) ro g0 S _ s hro hok h).mono fun e s' hf=>hf.block)
 | .block i (.seq a b),ro,g0,S,Q,s,hro,hok,h=>TA.block ((bB hX hY hSP hIT hD (.seq a b) ro g0 S _ s hro hok h).mono fun e s' hf=>hf.block)
 | .block i (.cond c a b),ro,g0,S,Q,s,hro,hok,h=>TA.block ((bB hX hY hSP hIT hD (.cond c a b) ro g0 S _ s hro hok h).mono fun e s' hf=>hf.block)
 | .block i (.scope a),ro,g0,S,Q,s,hro,hok,h=>TA.block ((bB hX hY hSP hIT hD (.scope a) ro g0 S _ s hro hok h).mono fun e s' hf=>hf.block)
 | .block i (.region id ops dr),ro,g0,S,Q,s,hro,hok,h=>TA.block ((bB hX hY hSP hIT hD (.region id ops dr) ro g0 S _ s hro hok h).mono fun e s' hf=>hf.block)
 | .block i (.block j a),ro,g0,S,Q,s,hro,hok,h=>TA.block ((bB hX hY hSP hIT hD (.block j a) ro g0 S _ s hro hok h).mono fun e s' hf=>hf.block)
 | .block i (.rangeFunc f ps SQ body),ro,g0,S,Q,s,hro,hok,h=>TA.block ((bB hX hY hSP hIT hD (.rangeFunc f ps SQ body) ro g0 S _ s hro hok h).mono fun e s' hf=>hf.block)
 | .rangeFunc f ps SQ body,ro,g0,S,Q,s,hro,hok,h=>by
  simp only [wp] at h
  split at h
  ·rename_i hn
   simp only [Bool.and_eq_true] at hn
   have e:ro=none:=hro.elim id fun q=>by simp [fe] at q
   subst e
   exact LM hok hIT (fun l Q s h=>bB hX hY hSP hIT hD SQ (some l) g0 S Q s (.inr hn.1) trivial h) (fun l Q s h=>bB hX hY hSP hIT hD body (some l) g0 S Q s (.inr hn.2) trivial h) h
  ·exact h.elim
theorem Ku {g0:G}:∀(d:List Nat) (g:G),(∀r∈d,g0 r=none)->(∀r o,g0 r=some o->g r=some o)->∀r o,g0 r=some o->(eQ g d) r=some o
 | [],g,_,h,r,o,hr=>h r o hr
 | a::d,g,hd,h,r,o,hr=>Ku d (G.del g a) (fun x hx=>hd x (by simp [hx])) (fun x p hx=>by
   unfold G.del
   rw [if_neg (fun e=>by subst e;rw [hd x (by simp)] at hx;cases hx)]
   exact h x p hx) r o hr
theorem av.fewer {f:FuncId} {args:List TV} {g:G} {K:TV->Prop} (h:av P w0 f args g fun v g'=>K v/\∀r o,g r=some o->g' r=some o):av P w0 f args g fun v g'=>K v/\g'=g:= .of fun σ w vs h1 h2=>
 CallsIn.mono (R:=fun e w'=>∃v r g' σ',e= .returned v/\(K r/\∀q o,g q=some o->g' q=some o)/\aJ P w0 σ g w σ' g' w'/\af σ' r v) (h.get σ w vs h1 h2) fun e w' ⟨v,r,g',σ',h1,⟨h2,h4⟩,h3,h5⟩=>⟨v,r,g,σ',h1,⟨h2,rfl⟩,h3.fewer h4,h5⟩
theorem Co (hX:∀f x,X f=some x->C8 P f x) (hY:ky P w0 Y) (hSP:r9 P w0 SP) (hIT:au P w0 IT) (hD:LK P w0 X Y SP an) {f:FuncId} {fn:Func} {args:List TV} {K:TV->Prop} (hf:P.funcs[f]?=some fn) (hpl:TV.dY args=true)
  (h:wFn X Y SP IT an iv fn args K) (g:G):av P w0 f args g fun v g'=>K v/\g'=g:=by
 unfold wFn at h
 cases hb:fn.body with
 | none=>rw [hb] at h;exact h.elim
 | some c=>
  rw [hb] at h
  have hres:∀{t:List TV},U9 Y t K fn.results.toList->∃vs,I7 Y t fn.results.toList=some vs/\K (PY vs):=fun {t} h=>by
   unfold U9 at h
   split at h
   ·rename_i vs hv
    rw [gK] at h
    exact⟨vs,hv,h⟩
   ·exact h.elim
  refine av.fewer (av.qF (Q:=fun v g'=>K v/\∀r o,g r=some o->g' r=some o) hY hf hb hpl ((bB hX hY hSP hIT hD c none g _ _ ⟨_,[],g⟩ (.inl rfl) ⟨List.nodup_nil,(fun r hr=>by cases hr),fun _ _ h=>h⟩ h).mono ?_))
  ·rintro e ⟨t,d,g'⟩ ⟨h1,_,h3⟩
   have hle:∀r o,g r=some o->(eQ g' d) r=some o:=Ku d g' (fun r hr=>(h3.dm r hr).2) h3.le
   have hfin:U9 Y t K fn.results.toList->(e= .normal\/e= .ret)->WW Y fn (fun v g'=>K v/\∀r o,g r=some o->g' r=some o) e ⟨t,d,g'⟩:=fun hr he=>by
    obtain⟨vs,q1,q2⟩:=hres hr
    exact⟨he,h3.nd,fun r hr=>(h3.dm r hr).1,vs,q1,q2,hle⟩
   cases e with
   | normal=>exact hfin h1 (.inl rfl)
   | ret=>exact hfin h1 (.inr rfl)
   | exit i=>exact h1.elim
   | goto i=>exact h1.elim
   | panic c=>exact h1.elim
   | outgrown=>exact h1.elim
end
end Go.TM
namespace Go.TM
open Go Go.RowKit Go.AM
theorem jq {R:List (Nat×Nat)} {e:Nat}:∀{l:List Nat},e∈jF R l↔∃d∈l,(d,e)∈R
 | []=>by simp [jF]
 | a::l=>by
  unfold jF
  rw [List.mem_append,jq (l:=l)]
  constructor
  ·rintro(h | ⟨d,hd,h⟩)
   ·obtain⟨p,hp,h⟩:=List.mem_filterMap.1 h
    cases q:Nat.beq p.1 a with
    | false=>rw [q] at h;cases h
    | true=>
     rw [q] at h
     simp only [cond_true,Option.some.injEq] at h
     exact⟨a,by simp,by rw [<- Nat.eq_of_beq_eq_true q, <- h];exact hp⟩
   ·exact⟨d,by simp [hd],h⟩
  ·rintro⟨d,hd,h⟩
   rcases List.mem_cons.1 hd with rfl | hd
   ·exact .inl (List.mem_filterMap.2 ⟨_,h,by simp [Nat.beq_refl]⟩)
   ·exact .inr ⟨d,hd,h⟩
theorem Tg {a b:List Nat}:apart a b=true↔∀x∈a,x∉b:=by
 induction a with
 | nil=>simp [apart]
 | cons x l ih=>
  unfold apart
  cases q:bK b x with
  | true=>simp only [cond_true,Bool.false_eq_true,false_iff];exact fun h=>h x (by simp) (gB.1 q)
  | false=>
   simp only [cond_false,ih,List.mem_cons]
   constructor
   ·rintro h y (rfl | hy)
    ·intro hb;rw [gB.2 hb] at q;cases q
    ·exact h y hy
   ·exact fun h y hy=>h y (.inr hy)
theorem Vs {l:List (Nat×Nat)} {p:Nat×Nat} (h:Xc l p=true):p∈l:=by
 induction l with
 | nil=>cases h
 | cons a l ih=>
  unfold Xc at h
  cases q:Nat.beq a.1 p.1&&Nat.beq a.2 p.2 with
  | true=>
   simp only [Bool.and_eq_true] at q
   have e1:=Nat.eq_of_beq_eq_true q.1
   have e2:=Nat.eq_of_beq_eq_true q.2
   have:a=p:=Prod.ext e1 e2
   simp [this]
  | false=>rw [q] at h;exact List.mem_cons_of_mem _ (ih h)
theorem jT {d:Nat}:∀{l:List Operand}, .tmp d∈l->d∈tmpsOf l
 | [],h=>by cases h
 | x::l,h=>by
  unfold tmpsOf
  rcases List.mem_cons.1 h with rfl | h
  ·simp [iV]
  ·exact List.mem_append_right _ (jT h)
def vV (R:List (Nat×Nat)) (t:List TV):Prop:=∀x e k,slot t x= .aac e k->(x,e)∈R
theorem Cj.invR {R:List (Nat×Nat)} {t:List TV} (h:Cj t):vV R t:=fun x e k q=>absurd (dL q (by simp)) (h x e k)
structure zg (ops:List Oper) (o:Oper) (t t':List TV):Prop where
 len:t'.length=t.length
 eq:∀x∈guardOf ops o++tmpsOf o.op.operands.toList,slot t' x=slot t x
 ow:∀x∈tmpsOf o.op.operands.toList,∀e k,slot t x= .aac e k->∀cs,slot t' e= .ow cs↔slot t e= .ow cs
theorem zg.refl (ops:List Oper) (o:Oper) (t:List TV):zg ops o t t:=⟨rfl,fun _ _=>rfl,fun _ _ _ _ _ _=>Iff.rfl⟩
section
variable {ops:List Oper} {o:Oper} {t t':List TV}
theorem zg.evE (h:zg ops o t t') {x:Operand} (hx:x∈o.op.operands.toList):ev t' x=ev t x:=by
 cases x with
 | tmp d=>exact h.eq d (List.mem_append_right _ (jT hx))
 | const v=>rfl
 | global g=>rfl
 | func f=>rfl
theorem zg.GH (h:zg ops o t t') {x:Operand} (hx:x∈o.op.operands.toList):dw t' x=dw t x:=by
 unfold Go.TM.dw;rw [h.evE hx]
theorem zg.evpsE (h:zg ops o t t') {l:List Operand} (hx:∀x∈l,x∈o.op.operands.toList):l.map (dw t')=l.map (dw t):=
 List.map_congr_left fun x q=>h.GH (hx x q)
theorem zg.wanted (h:zg ops o t t'):dG ops t' o=dG ops t o:=by
 have key:∀d∈guardOf ops o,slot t' d=slot t d:=fun d hd=>h.eq d (List.mem_append_left _ hd)
 unfold dG
 unfold guardOf at key
 cases hg:o.guard with
 | none=>rfl
 | some q=>
  obtain⟨j,want⟩:=q
  rw [hg] at key
  simp only at key ⊢
  cases hj:ops[j]? with
  | none=>rfl
  | some q=>
   rw [hj] at key
   simp only at key ⊢
   cases hd:q.dst with
   | none=>rfl
   | some d=>
    rw [hd] at key
    simp only at key ⊢
    rw [key d (by simp)]
theorem Kv {f g:Operand->TV} {ps:List (Nat×Operand)} (h:∀p∈ps,f p.2=g p.2):ps.map (fun p=>(p.1,f p.2))=ps.map (fun p=>(p.1,g p.2)):=
 List.map_congr_left fun p q=>by rw [h p q]
theorem Qt {Y:iM} {an:Nat->Option (List TV)} (H:∀x∈o.op.operands.toList,dw t' x=dw t x):I8 Y an t' o=I8 Y an t o:=by
 unfold I8
 cases ho:o.op with
 | build ty ps=>
  rw [ho] at H
  simp only [Kv (f:=dw t') (g:=dw t) (ps:=ps.toList) fun p hp=>H p.2 (by simpa [Op.operands] using ⟨p.1,Array.mem_toList_iff.1 hp⟩)]
 | buildSlice ty n ps=>
  rw [ho] at H
  simp only [Kv (f:=dw t') (g:=dw t) (ps:=ps.toList) fun p hp=>H p.2 (by simpa [Op.operands] using ⟨p.1,Array.mem_toList_iff.1 hp⟩)]
 | makeFunc fn fs cs=>
  rw [ho] at H
  have e1:fs.toList.map (dw t')=fs.toList.map (dw t):=List.map_congr_left fun x hx=>H x (by simp only [Op.operands,Array.toList_append,List.mem_append];exact .inl hx)
  have e2:cs.toList.map (dw t')=cs.toList.map (dw t):=List.map_congr_left fun x hx=>H x (by simp only [Op.operands,Array.toList_append,List.mem_append];exact .inr hx)
  simp only [e1,e2]
 | slice ty x lo hi mx=>
  rw [ho] at H
  have e1:lo.map (dw t')=lo.map (dw t):=by
   cases lo with
   | none=>rfl
   | some y=>simp only [Option.map_some];rw [H y (by simp [Op.operands])]
  have e2:hi.map (dw t')=hi.map (dw t):=by
   cases hi with
   | none=>rfl
   | some y=>simp only [Option.map_some];rw [H y (by simp [Op.operands])]
  have e3:dw t' x=dw t x:=H x (by simp [Op.operands])
  cases mx with
  | none=>simp only [e1,e2,e3]
  | some _=>rfl
 | call c=>
  rw [ho] at H
  obtain⟨callee,args,Y7⟩:=c
  cases callee with
  | builtin b=>
   have e1:args.toList.map (dw t')=args.toList.map (dw t):=List.map_congr_left fun x hx=>H x (by simp [Op.operands,Call.operands];exact Array.mem_toList_iff.1 hx)
   simp only [e1]
  | _=>rfl
 | _=>first | rfl | (rw [ho] at H;simp only [Op.operands,List.mem_cons,List.not_mem_nil,or_false,forall_eq_or_imp,forall_eq] at H;simp only [H]) | (rw [ho] at H;rename_i r;cases r<;>rfl)
theorem Vt {A:Type} {v:TV} (h:∀cs,v≠ .ow cs) {f:List TV->A} {z:A}:(match (generalizing:=false) v with | .ow cs=>f cs | _=>z)=z:=by
 cases v<;>first | rfl | exact absurd rfl (h _)
theorem GI {A:Type} {u v:TV} (h:∀cs,u= .ow cs↔v= .ow cs) {f:List TV->A} {z:A}:(match (generalizing:=false) u with | .ow cs=>f cs | _=>z)=(match (generalizing:=false) v with | .ow cs=>f cs | _=>z):=by
 by_cases q:∃cs,v= .ow cs
 ·obtain⟨cs,rfl⟩:=q
  rw [(h cs).2 rfl]
 ·rw [Vt (fun cs e=>q ⟨cs,e⟩),Vt (fun cs e=>q ⟨cs,(h cs).1 e⟩)]
theorem OB (h:zg ops o t t') {x:Operand} (hx:x∈o.op.operands.toList) (k:TK):J9 t' k x=J9 t k x:=by
 unfold J9
 cases x with
 | tmp d=>
  have e:=h.evE hx
  simp only [Go.TM.ev] at e
  simp only [e]
  cases hs:slot t d with
  | aac e' k'=>exact GI (h.ow d (jT hx) e' k' hs)
  | _=>rfl
 | _=>rfl
theorem LP (h:zg ops o t t') {x:Operand} (hx:x∈o.op.operands.toList) (k:TK) (v:TV):Ca t' k v x=Ca t k v x:=by
 unfold Ca
 cases x with
 | tmp d=>
  have e:=h.evE hx
  simp only [Go.TM.ev] at e
  simp only [e]
  cases hs:slot t d with
  | aac e' k'=>
   split
   ·exact GI (h.ow d (jT hx) e' k' hs)
   ·rfl
  | _=>rfl
 | _=>rfl
theorem Dy (h:zg ops o t t') {x:Operand} (hx:x∈o.op.operands.toList) (k:Nat):zO t' k x=zO t k x:=by
 unfold zO
 cases x with
 | tmp d=>
  have e:=h.evE hx
  simp only [Go.TM.ev] at e
  simp only [e]
  cases hs:slot t d with
  | aac e' k'=>exact GI (h.ow d (jT hx) e' k' hs)
  | _=>rfl
 | _=>rfl
theorem Kw {Y:iM} {an:Nat->Option (List TV)} (h:zg ops o t t'):top Y an t' o=top Y an t o:=by
 have hv:=Qt (Y:=Y) (an:=an) (o:=o) fun x hx=>h.GH hx
 unfold top
 cases ho:o.op with
 | box e x=>
  have e1:=h.GH (x:=x) (by simp [ho,Op.operands])
  simp only [e1]
 | load ty a=>
  have e1:=fun k=>OB h (x:=a) (by simp [ho,Op.operands]) k
  have e2:=h.GH (x:=a) (by simp [ho,Op.operands])
  simp only [e1,e2]
 | store ty a x=>
  have e1:=h.GH (x:=x) (by simp [ho,Op.operands])
  have e2:=fun k v=>LP h (x:=a) (by simp [ho,Op.operands]) k v
  simp only [e1,e2]
 | fieldAddr s x f=>
  have e2:=fun k=>Dy h (x:=x) (by simp [ho,Op.operands]) k
  simp only [e2]
 | indexAddr ty x ix=>
  have e1:=h.GH (x:=ix) (by simp [ho,Op.operands])
  have e2:=fun k=>Dy h (x:=x) (by simp [ho,Op.operands]) k
  simp only [e1,e2,hv]
 | _=>first | rfl | simp only [hv]
end
end Go.TM
