/-
  A part of the proof that TopSteps answers true for every input that can be read as data.
-/
import Derived.Test.YtgledbghdhjgkaaGreatDoorZF
import Derived.Deep.AppendSrc
set_option linter.unusedSimpArgs false
set_option linter.unusedVariables false
namespace Go.TM
open Go Go.RowKit Go.AM
section
variable {P:Program} {w0:World} {σ:TE} {g:G} {w:World}
def ay (P:Program) (σ:TE) (w:World) (s:Sem Value) (v:TV):Prop:=∃x,af σ v x/\(s.run P w= .ok x w\/s.run P w= .ok x w.drew)
theorem ay.ans {s:Sem Value} {v:TV} (r:TW P w0 σ g w) (h:ay P σ w s v):dO P w0 σ g w (do pure (.value (<- s))) v:=by
 obtain⟨x,hx,h⟩:=h
 rcases h with h | h
 ·exact⟨.value x,w,σ,by simp [h],aJ.refl r, .inl ⟨x,rfl,hx⟩⟩
 ·exact⟨.value x,w.drew,σ,by simp [h],aJ.drew r, .inl ⟨x,rfl,hx⟩⟩
theorem ay.of {s:Sem Value} {v:TV} {x:Value} (h:s.run P w= .ok x w) (hx:af σ v x):ay P σ w s v:=⟨x,hx, .inl h⟩
theorem dO.val {s:Sem Next} {v:TV} {x:Value} (r:TW P w0 σ g w) (h:s.run P w= .ok (.value x) w) (hv:af σ v x):dO P w0 σ g w s v:=⟨.value x,w,σ,h,aJ.refl r, .inl ⟨x,rfl,hv⟩⟩
theorem dO.to {s s':Sem Next} {v:TV} (h:dO P w0 σ g w s v) (hs:s'.run P w=s.run P w):dO P w0 σ g w s' v:=by
 obtain⟨x,w',σ',h1,h2⟩:=h
 exact⟨x,w',σ',by rw [hs];exact h1,h2⟩
def ihi:IntKind->Int
 | .i8=>127
 | .i16=>32767
 | .i32=>2147483647
 | .i64=>9223372036854775807
 | .u8=>255
 | .u16=>65535
 | .u32=>4294967295
 | .u64=>18446744073709551615
theorem ihi_eq (k:IntKind):ihi k=k.max:=by cases k<;>decide
theorem iq {k q:IntKind} (h:MN k q=true):k=q:=by cases k<;>cases q<;>first | rfl | cases h
theorem fA {k:IntKind} {n:Int} (h:aS.ok (within k n)):k.min<=n/\n<=k.max:=by
 cases k<;>(simp only [within] at h;have h1:=h _ (List.mem_cons_self ..);have h2:=h _ (List.mem_cons_of_mem _ (List.mem_cons_self ..));simp only at h1 h2;exact⟨h1,h2⟩)
theorem Va (x:Bool):af σ (.b (some x)) (.bool x):=by simp only [af]
theorem vJ (x:Bool):af σ (.b none) (.bool x):=by simp only [af];exact⟨_,rfl⟩
theorem Fp {p:Prop} {x:Bool} (h:x=true↔p):af σ (.bp p) (.bool x):=by simp only [af];exact⟨_,rfl,h⟩
theorem mg (k:IntKind) (n:Int):af σ (.i k (some n)) (.int k n):=by simp only [af]
theorem qK {k:IntKind} {n:Int} (h:k.has n):af σ (.i k none) (.int k n):=by simp only [af];exact⟨_,rfl,h⟩
theorem Qd {x:Nat} (h:x < 18446744073709551616):af σ .f (.float .f64 x):=by simp only [af];exact⟨_,rfl,h⟩
theorem gV {k:IntKind} {x:Option Int} {v:Value} (h:af σ (.i k x) v):∃n,v= .int k n/\(x=none->k.has n)/\∀y,x=some y->n=y:=by
 cases x with
 | none=>simp only [af] at h;obtain⟨n,rfl,hn⟩:=h;exact⟨n,rfl,(fun _=>hn),(fun y h=>by cases h)⟩
 | some y=>simp only [af] at h;exact⟨y,h,(fun h=>by cases h),(fun z h=>by injection h)⟩
theorem eU {v:Value} (h:af σ .f v):∃n,v= .float .f64 n/\n < 18446744073709551616:=by simp only [af] at h;exact h
theorem Gd {op:BinOp} {k:IntKind} {x y:Option Int} {c:Cs} {v:TV} (h:WY op k x y=some (c,v)) (hc:aS.ok c) {X Y:Value} (hx:af σ (.i k x) X) (hy:af σ (.i k y) Y) (t:TypeId) (hs:op≠ .shl) (hs':op≠ .shr):
  ay P σ w (binOp op t X Y) v:=by
 obtain⟨a,rfl,hxa,hxs⟩:=gV hx
 obtain⟨b,rfl,hya,hys⟩:=gV hy
 have e:binOp op t (.int k a) (.int k b)=(match op with
   | .add | .sub | .mul=>Op.intArith op k a b
   | .quo | .rem=>Op.intDiv op k a b
   | .and | .or | .xor | .andNot=>Op.intBits op k a b
   | _=>Op.intCmp op a b):=by
  cases op<;>first | (exact absurd rfl hs) | (exact absurd rfl hs') | simp [binOp]
 rw [e]
 unfold WY at h
 split at h
 ·rename_i a' b'
  obtain rfl:=hxs _ rfl
  obtain rfl:=hys _ rfl
  cases op<;>try (cases h;done)
  case add=>
   simp only [Option.some.injEq,Prod.mk.injEq] at h;obtain⟨rfl,rfl⟩:=h
   obtain⟨h1,h2⟩:=fA hc
   exact ay.of (x:= .int k (k.wrap (a+b))) (by simp [Op.intArith]) (by rw [jA h1 h2];simp [af])
  case sub=>
   simp only [Option.some.injEq,Prod.mk.injEq] at h;obtain⟨rfl,rfl⟩:=h
   obtain⟨h1,h2⟩:=fA hc
   exact ay.of (x:= .int k (k.wrap (a - b))) (by simp [Op.intArith]) (by rw [jA h1 h2];simp [af])
  case mul=>
   simp only [Option.some.injEq,Prod.mk.injEq] at h;obtain⟨rfl,rfl⟩:=h
   obtain⟨h1,h2⟩:=fA hc
   exact ay.of (x:= .int k (k.wrap (a*b))) (by simp [Op.intArith]) (by rw [jA h1 h2];simp [af])
  case quo=>
   simp only [Option.some.injEq,Prod.mk.injEq] at h;obtain⟨rfl,rfl⟩:=h
   have h1:=hc (1,b) (by simp)
   have h2:=hc (0,a) (by simp)
   have h3:=(fA (k:=k) (n:=a) (fun p hp=>hc p (List.mem_cons_of_mem _ (List.mem_cons_of_mem _ hp)))).2
   simp only at h1 h2
   have hb:b≠0:=by omega
   have hd:a.tdiv b=a / b:=Int.tdiv_eq_ediv_of_nonneg h2
   have h4:0<=a / b:=Int.ediv_nonneg h2 (by omega)
   have h5:a / b<=a:=Int.ediv_le_self b h2
   have h6:k.min<=0:=by cases k<;>decide
   refine ay.of (x:= .int k (k.wrap (a.tdiv b))) (by simp [Op.intDiv,hb]) ?_
   rw [hd,jA (by omega) (by omega)]
   simp [af]
  case rem=>
   simp only [Option.some.injEq,Prod.mk.injEq] at h;obtain⟨rfl,rfl⟩:=h
   have h1:=hc (1,b) (by simp)
   have h2:=hc (0,a) (by simp)
   simp only at h1 h2
   have hb:b≠0:=by omega
   refine ay.of (x:= .int k (a.tmod b)) (by simp [Op.intDiv,hb]) ?_
   rw [Int.tmod_eq_emod_of_nonneg h2]
   simp [af]
  all_goals (simp only [Option.some.injEq,Prod.mk.injEq] at h;obtain⟨rfl,rfl⟩:=h)
  all_goals first
   | exact ay.of rfl (qK (ko _ _))
   | exact ay.of rfl (Fp (by simp))
 ·cases op<;>simp only [Option.some.injEq,Prod.mk.injEq] at h<;>try (cases h;done)
  all_goals obtain⟨rfl,rfl⟩:=h
  all_goals first
   | exact ay.of rfl (vJ _)
   | exact ay.of rfl (qK (ko _ _))
theorem Y8 {n m:Int} {c:Cs} (h:aS.ok ((n,m)::(m,n)::c)):n=m/\aS.ok c:=by
 obtain⟨h1,h2⟩:=aS.aA.1 h
 obtain⟨h3,h4⟩:=aS.aA.1 h2
 simp only at h1 h3
 exact⟨by omega,h4⟩
mutual
theorem same_eq:∀(a b:TV) (c:Cs),TV.same a b=some c->aS.ok c->a=b
 | .b x,b,c,h,hc=>by
  cases b with
  | b y=>
   cases x<;>cases y<;>simp only [TV.same] at h
   ·rfl
   ·cases h
   ·cases h
   ·split at h
    ·rename_i he;rw [eq_of_beq he]
    ·cases h
  | _=>cases x<;>simp only [TV.same] at h<;>cases h
 | .bp p,b,c,h,hc=>by simp only [TV.same] at h;cases h
 | .i k x,b,c,h,hc=>by
  cases b with
  | i q y=>
   cases x<;>cases y<;>simp only [TV.same] at h
   ·split at h
    ·rename_i he;rw [iq he]
    ·cases h
   ·cases h
   ·cases h
   ·split at h
    ·rename_i he
     injection h with h;subst h
     rw [iq he,(Y8 hc).1]
    ·cases h
  | _=>cases x<;>simp only [TV.same] at h<;>cases h
 | .f,b,c,h,hc=>by cases b<;>simp only [TV.same] at h<;>first | (cases h;done) | rfl
 | .pn,b,c,h,hc=>by cases b<;>simp only [TV.same] at h<;>first | (cases h;done) | rfl
 | .p T,b,c,h,hc=>by
  cases b<;>simp only [TV.same] at h<;>first | (cases h;done) | skip
  rw [dx T _ c h hc]
 | .s T x,b,c,h,hc=>by
  cases b with
  | s U y=>
   cases x<;>cases y<;>simp only [TV.same] at h
   ·rw [dx T _ c h hc]
   ·cases h
   ·cases h
   ·split at h
    ·rename_i c1 h1
     injection h with h;subst h
     obtain⟨q1,q2⟩:=Y8 hc
     rw [q1,dx T _ c1 h1 q2]
    ·cases h
  | _=>cases x<;>simp only [TV.same] at h<;>cases h
 | .m k v,b,c,h,hc=>by simp only [TV.same] at h;cases h
 | .fn g fs cs,b,c,h,hc=>by
  cases b<;>simp only [TV.same] at h<;>first | (cases h;done) | skip
  split at h
  ·rename_i he
   split at h
   ·rename_i c1 d1 h1 h2
    injection h with h;subst h
    obtain⟨k1,k2⟩:=aS.aU.1 hc
    rw [Nat.eq_of_beq_eq_true he,dx fs _ c1 h1 k1,dx cs _ d1 h2 k2]
   ·cases h
  ·cases h
 | .y r,b,c,h,hc=>by simp only [TV.same] at h;cases h
 | .bD,b,c,h,hc=>by cases b<;>simp only [TV.same] at h<;>first | (cases h;done) | rfl
 | .agg cs,b,c,h,hc=>by simp only [TV.same] at h;cases h
 | .aF cs,b,c,h,hc=>by simp only [TV.same] at h;cases h
 | .val v,b,c,h,hc=>by simp only [TV.same] at h;cases h
 | .bg,b,c,h,hc=>by cases b<;>simp only [TV.same] at h<;>first | (cases h;done) | rfl
 | .ow cs,b,c,h,hc=>by simp only [TV.same] at h;cases h
 | .aac d o,b,c,h,hc=>by simp only [TV.same] at h;cases h
 | .oC T m,b,c,h,hc=>by simp only [TV.same] at h;cases h
 | .tab q ks vs,b,c,h,hc=>by simp only [TV.same] at h;cases h
 | .pb T,b,c,h,hc=>by
  cases b<;>simp only [TV.same] at h<;>first | (cases h;done) | skip
  rw [dx T _ c h hc]
 | .np z T,b,c,h,hc=>by
  cases b<;>simp only [TV.same] at h<;>first | (cases h;done) | skip
  split at h
  ·rename_i c1 h1
   injection h with h;subst h
   obtain⟨q1,q2⟩:=Y8 hc
   rw [q1,dx T _ c1 h1 q2]
  ·cases h
 | .rg k m,b,c,h,hc=>by
  cases b<;>simp only [TV.same] at h<;>first | (cases h;done) | skip
  split at h
  ·rename_i hk
   simp only [Bool.and_eq_true] at hk
   rw [iq hk.1,Nat.eq_of_beq_eq_true hk.2]
  ·cases h
termination_by a=>SizeOf.sizeOf a
theorem dx:∀(a b:List TV) (c:Cs),TV.iU a b=some c->aS.ok c->a=b
 | [],b,c,h,hc=>by cases b<;>simp only [TV.iU] at h<;>first | rfl | (cases h;done)
 | x::a,b,c,h,hc=>by
  cases b<;>simp only [TV.iU] at h<;>first | (cases h;done) | skip
  split at h
  ·rename_i c1 d1 h1 h2
   injection h with h;subst h
   obtain⟨k1,k2⟩:=aS.aU.1 hc
   rw [same_eq x _ c1 h1 k1,dx a _ d1 h2 k2]
  ·cases h
termination_by a=>SizeOf.sizeOf a
end
theorem Gf:∀(a b:List TV) (c:Cs),TV.subs a b=some c->aS.ok c->∃r,a=b++r
 | a,[],c,h,hc=>⟨a,rfl⟩
 | [],y::b,c,h,hc=>by simp only [TV.subs] at h;cases h
 | x::a,y::b,c,h,hc=>by
  simp only [TV.subs] at h
  split at h
  ·rename_i c1 d1 h1 h2
   injection h with h;subst h
   obtain⟨k1,k2⟩:=aS.aU.1 hc
   obtain⟨r,hr⟩:=Gf a b d1 h2 k2
   exact⟨r,by rw [same_eq x y c1 h1 k1,hr];rfl⟩
  ·cases h
theorem Vb {T:List TV} {v:Value} (h:af σ (.pb T) v):af σ (.p T) v:=by
 simp only [af] at h ⊢
 obtain⟨r,rfl,h⟩:=h
 exact⟨r,0,T,1,0,0,[],rfl,h,by simp,by omega,by simp,by simp⟩
theorem vK {a:TV} {v:Value} (h:af σ a v):af σ a.Wn v:=by
 cases a<;>first | exact h | exact Vb h
mutual
theorem lS:∀(a b:TV) (c:Cs),TV.sub a b=some c->aS.ok c->∀v,af σ a v->af σ b v
 | .b x,b,c,h,hc,v,hv=>by
  have hb:∃z,v= .bool z:=by
   cases x with
   | none=>simp only [af] at hv;exact hv
   | some x=>simp only [af] at hv;exact⟨_,hv⟩
  cases b<;>first | (cases x<;>simp only [TV.sub] at h<;>cases h;done) | skip
  ·rename_i y
   cases y with
   | none=>simp only [af];exact hb
   | some y=>
    cases x with
    | none=>simp only [TV.sub] at h;cases h
    | some x=>
     simp only [TV.sub] at h
     split at h
     ·rename_i he;rw [<- eq_of_beq he];exact hv
     ·cases h
  ·simp only [af]
 | .bp p,b,c,h,hc,v,hv=>by
  simp only [af] at hv
  obtain⟨x,rfl,_⟩:=hv
  cases b<;>first | (simp only [TV.sub] at h;cases h;done) | skip
  ·rename_i y
   cases y with
   | none=>exact vJ _
   | some y=>simp only [TV.sub] at h;cases h
  ·simp only [af]
 | .i k x,b,c,h,hc,v,hv=>by
  cases b<;>first | (cases x<;>simp only [TV.sub] at h<;>cases h;done) | skip
  ·rename_i q y
   cases x with
   | none=>
    cases y with
    | none=>
     simp only [TV.sub] at h
     split at h
     ·rename_i he;rw [<- iq he];exact hv
     ·cases h
    | some y=>simp only [TV.sub] at h;cases h
   | some x=>
    simp only [af] at hv;subst hv
    cases y with
    | none=>
     simp only [TV.sub] at h
     split at h
     ·rename_i he
      injection h with h;subst h
      rw [<- iq he]
      exact qK (fA hc)
     ·cases h
    | some y=>
     simp only [TV.sub] at h
     split at h
     ·rename_i he
      injection h with h;subst h
      rw [<- iq he,(Y8 hc).1]
      exact mg _ _
     ·cases h
  ·simp only [af]
  ·cases x with
   | none=>simp only [TV.sub] at h;cases h
   | some x=>
    simp only [TV.sub] at h
    split at h
    ·rename_i he
     injection h with h;subst h
     obtain⟨h1,h2⟩:=aS.aA.1 hc
     obtain⟨h3,_⟩:=aS.aA.1 h2
     simp only [af] at hv ⊢
     rw [<- iq he]
     exact⟨x,hv,h1,h3⟩
    ·cases h
 | .f,b,c,h,hc,v,hv=>by cases b<;>simp only [TV.sub] at h<;>first | (cases h;done) | exact hv | simp only [af]
 | .pn,b,c,h,hc,v,hv=>by
  cases b<;>simp only [TV.sub] at h<;>first | (cases h;done) | exact hv | (simp only [af];done) | skip
  injection h with h;subst h
  simp only [af] at hv ⊢
  exact .inl ⟨(Y8 hc).1,hv⟩
 | .p T,b,c,h,hc,v,hv=>by
  cases b<;>simp only [TV.sub] at h<;>first | (cases h;done) | skip
  ·obtain⟨r,hr⟩:=Gf T _ c h hc
   subst hr
   simp only [af] at hv ⊢
   obtain⟨a,o,B,n,j,q,u,e,h1,h2,h3,h4,h5⟩:=hv
   refine⟨a,o,B,n,j,q,r++u,e,h1,h2,h3,?_,by rw [h5,List.append_assoc]⟩
   rw [List.length_append] at h4;omega
  ·simp only [af]
 | .s T x,b,c,h,hc,v,hv=>by
  cases b<;>first | (cases x<;>simp only [TV.sub] at h<;>cases h;done) | skip
  ·rename_i U y
   cases y with
   | none=>
    cases x with
    | none=>
     simp only [TV.sub] at h
     have:=dx T _ c h hc
     subst this
     exact hv
    | some x=>
     simp only [TV.sub] at h
     split at h
     ·rename_i c1 h1
      injection h with h;subst h
      obtain⟨q1,q2⟩:=aS.aA.1 hc
      have:=dx T _ c1 h1 q2
      subst this
      simp only [af] at hv ⊢
      obtain⟨A,k,C,e,h1,⟨h3,h4,_⟩,h2⟩:=hv
      have:=h1 x rfl
      simp only at q1
      exact⟨A,k,C,e,(fun z hz=>by cases hz),⟨h3,h4,fun _=>by omega⟩,h2⟩
     ·cases h
   | some y=>
    cases x with
    | none=>simp only [TV.sub] at h;cases h
    | some x=>
     simp only [TV.sub] at h
     split at h
     ·rename_i c1 h1
      injection h with h;subst h
      obtain⟨q1,q2⟩:=Y8 hc
      subst q1
      have:=dx T _ c1 h1 q2
      subst this
      exact hv
     ·cases h
  ·simp only [af]
 | .m k t,b,c,h,hc,v,hv=>by cases b<;>simp only [TV.sub] at h<;>first | (cases h;done) | simp only [af]
 | .fn g fs cs,b,c,h,hc,v,hv=>by
  cases b<;>simp only [TV.sub] at h<;>first | (cases h;done) | skip
  ·split at h
   ·rename_i he
    split at h
    ·rename_i c1 d1 h1 h2
     injection h with h;subst h
     obtain⟨k1,k2⟩:=aS.aU.1 hc
     simp only [af] at hv ⊢
     obtain⟨vs,us,e,q1,q2⟩:=hv
     refine⟨vs,us,?_,dD fs _ c1 h1 k1 _ q1,dD cs _ d1 h2 k2 _ q2⟩
     rw [<- Nat.eq_of_beq_eq_true he];exact e
    ·cases h
   ·cases h
  ·simp only [af]
 | .y r,b,c,h,hc,v,hv=>by cases b<;>simp only [TV.sub] at h<;>first | (cases h;done) | simp only [af]
 | .bD,b,c,h,hc,v,hv=>by cases b<;>simp only [TV.sub] at h<;>first | (cases h;done) | exact hv | simp only [af]
 | .agg cs,b,c,h,hc,v,hv=>by
  cases b<;>simp only [TV.sub] at h<;>first | (cases h;done) | skip
  ·simp only [af] at hv ⊢
   obtain⟨vs,e,q⟩:=hv
   exact⟨vs,e,dD cs _ c h hc _ q⟩
  ·simp only [af]
 | .aF cs,b,c,h,hc,v,hv=>by
  cases b<;>simp only [TV.sub] at h<;>first | (cases h;done) | skip
  ·simp only [af] at hv ⊢
   obtain⟨vs,e,q⟩:=hv
   exact⟨vs,e,dD cs _ c h hc _ q⟩
  ·simp only [af]
 | .val u,b,c,h,hc,v,hv=>by
  unfold TV.sub at h
  split at h<;>first | (cases h;done) | skip
  all_goals first | (rename_i heq;cases heq;done) | skip
  ·rename_i heq
   injection heq with heq
   subst heq
   simp only [af] at hv ⊢
   subst hv
   exact⟨none,0,0,rfl,(fun z hz=>by cases hz),⟨Nat.le_refl _,by omega,fun _=>by omega⟩,(fun _=>rfl),(fun a ha=>by cases ha)⟩
  ·rename_i heq
   injection heq with heq
   subst heq
   injection h with h;subst h
   obtain⟨h1,h2⟩:=aS.aA.1 hc
   obtain⟨h3,_⟩:=aS.aA.1 h2
   simp only at h1 h3
   simp only [af] at hv ⊢
   subst hv
   exact⟨none,0,0,rfl,(fun z hz=>by injection hz with hz;subst hz;show(0:Int)=_;omega),⟨Nat.le_refl _,by omega,fun _=>by omega⟩,(fun _=>rfl),(fun a ha=>by cases ha)⟩
  ·simp only [af]
 | .bg,b,c,h,hc,v,hv=>by cases b<;>simp only [TV.sub] at h<;>first | (cases h;done) | simp only [af]
 | .ow cs,b,c,h,hc,v,hv=>by cases b<;>simp only [TV.sub] at h<;>first | (cases h;done) | simp only [af]
 | .aac d o,b,c,h,hc,v,hv=>by cases b<;>simp only [TV.sub] at h<;>first | (cases h;done) | simp only [af]
 | .oC T m,b,c,h,hc,v,hv=>by cases b<;>simp only [TV.sub] at h<;>first | (cases h;done) | simp only [af]
 | .tab q ks vs,b,c,h,hc,v,hv=>by cases b<;>simp only [TV.sub] at h<;>first | (cases h;done) | simp only [af]
 | .pb T,b,c,h,hc,v,hv=>by
  cases b<;>simp only [TV.sub] at h<;>first | (cases h;done) | skip
  ·obtain⟨r,hr⟩:=Gf T _ c h hc
   subst hr
   have hv:=Vb hv
   simp only [af] at hv ⊢
   obtain⟨a,o,B,n,j,q,u,e,h1,h2,h3,h4,h5⟩:=hv
   refine⟨a,o,B,n,j,q,r++u,e,h1,h2,h3,?_,by rw [h5,List.append_assoc]⟩
   rw [List.length_append] at h4;omega
  ·simp only [af]
  ·have:=dx T _ c h hc
   subst this
   exact hv
  ·split at h
   ·rename_i c1 h1
    injection h with h;subst h
    obtain⟨q1,q2⟩:=Y8 hc
    have:=dx T _ c1 h1 q2
    subst this
    simp only [af] at hv ⊢
    exact .inr ⟨q1,hv⟩
   ·cases h
 | .np z T,b,c,h,hc,v,hv=>by
  cases b<;>simp only [TV.sub] at h<;>first | (cases h;done) | skip
  ·simp only [af]
  ·split at h
   ·rename_i c1 h1
    injection h with h;subst h
    obtain⟨q1,q2⟩:=Y8 hc
    have:=dx T _ c1 h1 q2
    subst this
    rw [<- q1];exact hv
   ·cases h
 | .rg k m,b,c,h,hc,v,hv=>by
  cases b<;>first | (simp only [TV.sub] at h;cases h;done) | skip
  ·rename_i k' x
   cases x with
   | some x=>simp only [TV.sub] at h;cases h
   | none=>
    simp only [TV.sub] at h
    split at h
    ·rename_i hk
     obtain rfl:=iq hk
     injection h with h;subst h
     obtain⟨h1,h2⟩:=fA hc
     simp only [af] at hv ⊢
     obtain⟨n,rfl,h3,h4⟩:=hv
     refine⟨n,rfl,?_⟩
     have:k.min<=0:=by cases k<;>simp [IntKind.min,IntKind.signed,IntKind.bits]
     exact⟨by omega,by omega⟩
    ·cases h
  ·simp only [af]
  ·simp only [TV.sub] at h
   split at h
   ·rename_i hk
    obtain rfl:=iq hk
    injection h with h;subst h
    obtain⟨h1,_⟩:=aS.aA.1 hc
    simp only at h1
    simp only [af] at hv ⊢
    obtain⟨n,rfl,h3,h4⟩:=hv
    exact⟨n,rfl,h3,by omega⟩
   ·cases h
termination_by a=>SizeOf.sizeOf a
theorem dD:∀(a b:List TV) (c:Cs),TV.kL a b=some c->aS.ok c->∀vs,ai σ a vs->ai σ b vs
 | [],b,c,h,hc,vs,hv=>by cases b<;>simp only [TV.kL] at h<;>first | exact hv | (cases h;done)
 | x::a,b,c,h,hc,vs,hv=>by
  cases b<;>simp only [TV.kL] at h<;>first | (cases h;done) | skip
  split at h
  ·rename_i c1 d1 h1 h2
   injection h with h;subst h
   obtain⟨k1,k2⟩:=aS.aU.1 hc
   simp only [ai] at hv ⊢
   obtain⟨v,r,e,q1,q2⟩:=hv
   exact⟨v,r,e,lS x _ c1 h1 k1 v q1,dD a _ d1 h2 k2 r q2⟩
  ·cases h
termination_by a=>SizeOf.sizeOf a
end
end
end Go.TM
namespace Go.TM
open Go Go.RowKit Go.AM
section
variable {P:Program} {w0:World} {σ:TE} {g:G} {w:World}
theorem Kg {a:TV} {v:Value} (h:af σ a v) (ha:a.atom=true):v.oneCell'=true:=by
 cases a with
 | b x=>cases x<;>simp only [af] at h<;>first | (subst h;rfl) | (obtain⟨_,rfl⟩:=h;rfl)
 | bp p=>simp only [af] at h;obtain⟨_,rfl,_⟩:=h;rfl
 | i k x=>obtain⟨_,rfl,_⟩:=gV h;rfl
 | f=>simp only [af] at h;obtain⟨_,rfl,_⟩:=h;rfl
 | pn=>simp only [af] at h;subst h;rfl
 | p T=>simp only [af] at h;obtain⟨_,_,_,_,_,_,_,rfl,_⟩:=h;rfl
 | s T x=>simp only [af] at h;obtain⟨_,_,_,rfl,_⟩:=h;rfl
 | m k t=>simp only [af] at h;obtain⟨_,rfl,_⟩:=h;rfl
 | fn g fs cs=>simp only [af] at h;obtain⟨_,_,rfl,_⟩:=h;rfl
 | y r=>simp only [af] at h;subst h;rfl
 | bD=>simp only [af] at h;subst h;rfl
 | oC T m=>simp only [af] at h;obtain⟨_,_,rfl,_⟩:=h;rfl
 | tab q ks vs=>simp only [af] at h;obtain⟨_,rfl,_⟩:=h;rfl
 | rg q m=>simp only [af] at h;obtain⟨_,rfl,_⟩:=h;rfl
 | pb T=>simp only [af] at h;obtain⟨_,rfl,_⟩:=h;rfl
 | np z T=>simp only [af] at h;rcases h with⟨_,rfl⟩ | ⟨_,_,rfl,_⟩<;>rfl
 | val u=>
  simp only [af] at h;subst h
  have:(∃a k c,v= .slice a k c)\/v= .map none:=by
   unfold TV.atom at ha
   split at ha<;>first | (cases ha;done) | skip
   ·rename_i heq;injection heq with heq;exact .inl ⟨_,_,_,heq⟩
   ·rename_i heq;injection heq with heq;exact .inr heq
   ·rename_i h1;exact absurd rfl (h1 v)
  rcases this with⟨a,k,c,rfl⟩ | rfl<;>rfl
 | agg cs=>cases ha
 | aF cs=>cases ha
 | bg=>cases ha
 | ow cs=>cases ha
 | aac d o=>cases ha
theorem fB:∀{ae:List TV} {vs:List Value},ai σ ae vs->TV.atoms ae=true->∀v∈vs,v.oneCell'=true
 | [],vs,r,_,v,hv=>by simp only [ai] at r;subst r;cases hv
 | a::ae,vs,r,h,v,hv=>by
  simp only [ai] at r
  obtain⟨x,q,rfl,h1,h2⟩:=r
  simp only [TV.atoms,Bool.and_eq_true] at h
  cases hv with
  | head=>exact Kg h1 h.1
  | tail _ hm=>exact fB h2 h.2 v hm
theorem mh {a:TV} {v:Value} (h:af σ a v) (ha:TV.atoms a.cells=true):ai σ a.cells v.cells.toList:=by
 have key:a.atom=true->ai σ [a] v.cells.toList:=fun ha=>by
  have h1:=Kg h ha
  have:v.cells=#[v]:=by cases v<;>first | rfl | (simp [Value.oneCell'] at h1)
  rw [this];exact ai.one h
 cases a with
 | agg cs=>simp only [af] at h;obtain⟨vs,rfl,hr⟩:=h;exact hr
 | _=>exact key (by simpa [TV.cells,TV.atoms] using ha)
theorem zV {op:BinOp} {k k':IntKind} {x y:Option Int} {c:Cs} {v:TV} (h:F7 op k x y=some (c,v)) (hc:aS.ok c) {X Y:Value} (hx:af σ (.i k x) X) (hy:af σ (.i k' y) Y) (t:TypeId):ay P σ w (binOp op t X Y) v:=by
 obtain⟨a,rfl,hxa,hxs⟩:=gV hx
 obtain⟨b,rfl,hya,hys⟩:=gV hy
 cases y with
 | none=>cases x<;>simp only [F7] at h<;>cases h
 | some b'=>
  obtain rfl:=hys _ rfl
  cases op<;>simp only [F7] at h<;>first | (cases h;done) | skip
  ·injection h with h
   injection h with h1 h2
   subst h1;subst h2
   have h0:=hc (0,b) (by simp)
   simp only at h0
   have hn:¬b < 0:=by omega
   exact ay.of (x:= .int k (k.wrap (a*2 ^ (min b.toNat k.bits)))) (by simp [binOp,Op.shift,hn]) (qK (ko _ _))
  ·have fin:0<=b->k.has a->ay P σ w (binOp .shr t (.int k a) (.int k' b)) (.i k none):=fun h0 hk=>by
    have hn:¬b < 0:=by omega
    exact ay.of (x:= .int k (a.fdiv (2 ^ (min b.toNat k.bits)))) (by simp [binOp,Op.shift,hn]) (qK (MW _ _ _ hk))
   cases x with
   | none=>
    injection h with h
    injection h with h1 h2
    subst h1;subst h2
    exact fin (hc (0,b) (by simp)) (hxa rfl)
   | some z=>
    obtain rfl:=hxs _ rfl
    injection h with h
    injection h with h1 h2
    subst h1;subst h2
    obtain⟨q1,q2⟩:=aS.aA.1 hc
    exact fin q1 (fA q2)
theorem qL {e:aZ} {s:Sem Value} {x:AV} {v:TV} (h:Gives P e 0 w s x) (hm:∀y,AM.af e 0 x y->af σ v y):ay P σ w s v:=by
 obtain⟨y,hy,hr⟩:=h
 exact⟨y,hm y hy,hr⟩
theorem Qe {op:BinOp} {X Y:Value} (hx:af σ .f X) (hy:af σ .f Y) (t:TypeId):(∀v,BI op .top .top=some v->ay P σ w (binOp op t X Y) .f)/\(∀v,JC op .top .top=some v->ay P σ w (binOp op t X Y) (.b none)):=by
 obtain⟨a,rfl,ha⟩:=eU hx
 obtain⟨b,rfl,hb⟩:=eU hy
 have e0:aZ:=⟨fun _=>0,fun _=>0⟩
 have ra:AM.af e0 0 (.f .top) (.float .f64 a):=fw ha
 have rb:AM.af e0 0 (.f .top) (.float .f64 b):=fw hb
 refine⟨fun v hv=>?_,fun v hv=>?_⟩
 ·have hv':v= .f .top:=by cases op<;>simp [BI,FD.words] at hv<;>exact hv.symm
  subst hv'
  exact qL (zo hv ra rb t) fun y hy=>by simp only [AM.af] at hy;simp only [af];exact hy
 ·have hv':v= .b none:=by cases op<;>simp [JC,FD.words] at hv<;>exact hv.symm
  subst hv'
  exact qL (CX hv ra rb t) fun y hy=>by simp only [AM.af] at hy;simp only [af];exact hy
theorem ky.und {Y:iM} (h:ky P w0 Y) {ty:TypeId} {k:TK} (hk:Y ty=some k):P.underlying ty=some k.d:=(h ty k hk).1
theorem Oa {xs ys:List TV} {Y:iM} (hY:ky P w0 Y) {X Z:Array Value} (hx:ai σ xs X.toList) (hy:ai σ ys Z.toList) (d:Nat):∀(fs:List Field) (l:List (Int×Int)),J8 Y xs ys fs=some l->∃z:Bool,(Op.eqFields (d+1) X Z fs).run P w= .ok z w/\(z=true↔UN l)
 | [],l,h=>by simp only [J8,Option.some.injEq] at h;subst h;exact⟨true,by simp [Op.eqFields],by simp [UN]⟩
 | f::r,l,h=>by
  unfold J8 at h
  split at h
  ·cases h
  ·rename_i hn
   split at h
   ·rename_i k0 _ _ _ _ _ k a k' b q hu hxa hyb hr
    split at h
    ·rename_i hk
     obtain rfl:=iq hk
     injection h with h;subst h
     obtain⟨u,hu1,hu2⟩:=hx.get hxa
     obtain⟨v,hv1,hv2⟩:=hy.get hyb
     simp only [af] at hu2 hv2
     subst hu2 hv2
     have hu:P.underlying f.type=some (.int k0):=hY.und hu
     have p1:=lZ (P:=P) hu (cs:=X) (by simpa using hu1) w
     have p2:=lZ (P:=P) hu (cs:=Z) (by simpa using hv1) w
     obtain⟨z,ih,hz⟩:=Oa hY hx hy d r q hr
     refine⟨a==b&&z,?_,?_⟩
     ·simp only [Op.eqFields,ne_eq,hn,not_false_eq_true,if_true,Sem.run_bind,p1,p2,Result.andThen_ok,run_equalIn_int w d f.type k k0 a b hu]
      cases e:a==b
      ·simp
      ·simp [ih]
     ·simp [UN,hz]
    ·cases h
   ·cases h
theorem rel_nilif {a:TV} {v:Value} (h:af σ a v) (ha:a.Pm=true\/(∃cs,a= .agg cs)\/a.atom=true):v≠ .nilIface:=by
 rcases ha with ha | ⟨cs,rfl⟩ | ha
 ·obtain⟨b,rfl,_⟩:=il h ha;simp
 ·simp only [af] at h;obtain⟨_,rfl,_⟩:=h;simp
 ·cases a with
  | b x=>obtain⟨b,rfl,_⟩:=il h rfl;simp
  | bp x=>obtain⟨b,rfl,_⟩:=il h rfl;simp
  | i k x=>obtain⟨_,rfl,_⟩:=gV h;simp
  | f=>simp only [af] at h;obtain⟨_,rfl,_⟩:=h;simp
  | pn=>simp only [af] at h;subst h;simp
  | p T=>simp only [af] at h;obtain⟨_,_,_,_,_,_,_,rfl,_⟩:=h;simp
  | s T x=>simp only [af] at h;obtain⟨_,_,_,rfl,_⟩:=h;simp
  | m k t=>simp only [af] at h;obtain⟨_,rfl,_⟩:=h;simp
  | fn g fs cs=>simp only [af] at h;obtain⟨_,_,rfl,_⟩:=h;simp
  | y r=>simp only [af] at h;subst h;simp
  | bD=>simp only [af] at h;subst h;simp
  | oC T m=>simp only [af] at h;obtain⟨_,_,rfl,_⟩:=h;simp
  | tab q ks vs=>simp only [af] at h;obtain⟨_,rfl,_⟩:=h;simp
  | rg q m=>simp only [af] at h;obtain⟨_,rfl,_⟩:=h;simp
  | pb T=>simp only [af] at h;obtain⟨_,rfl,_⟩:=h;simp
  | np z T=>simp only [af] at h;rcases h with⟨_,rfl⟩ | ⟨_,_,rfl,_⟩<;>simp
  | val u=>
   have:(∃a k c,u= .slice a k c)\/u= .map none:=by
    unfold TV.atom at ha
    split at ha<;>first | (cases ha;done) | skip
    ·rename_i heq;injection heq with heq;exact .inl ⟨_,_,_,heq⟩
    ·rename_i heq;injection heq with heq;exact .inr heq
    ·rename_i h1;exact absurd rfl (h1 u)
   simp only [af] at h
   subst h
   rcases this with⟨a,k,c,rfl⟩ | rfl<;>simp
  | agg cs=>cases ha
  | aF cs=>cases ha
  | bg=>cases ha
  | ow cs=>cases ha
  | aac d o=>cases ha
theorem iF {σ:TE} {g:G} {w:World} (r:TW P w0 σ g w) {T:List TV} {X:Value} (hx:af σ (.p T) X):∃b o C e,X= .pointer (some ⟨b,o,none⟩)/\w.heap[b]?=some (.cells C e (0,0)):=by
 simp only [af] at hx
 obtain⟨b,o,B,n,j,q,u,rfl,hb,_⟩:=hx
 obtain⟨O,hO,C,e,rfl,_⟩:=r.blk _ _ hb
 exact⟨b,o,C,e,rfl,hO⟩
theorem bL {t:TypeId} {X Y:Value} {z:Bool} (H:∀D,(Op.equalIn (D+1+1) t X Y).run P w= .ok z w):(Op.equal t X Y).run P w= .ok z w:=H 9998
theorem Gg {Y:iM} (hY:ky P w0 Y) (r:TW P w0 σ g w) {ty:TypeId} {x y v:TV} (h:SL Y ty x y=some v) {A B:Value} (hx:af σ x A) (hy:af σ y B):
  ∃z:Bool,(Op.equal ty A B).run P w= .ok z w/\v.Pm=true/\v.holds z/\A≠ .nilIface/\(∀cs,A= .agg cs->P.eqGuardType P.depth ty=false)/\(∀k n,A≠ .int k n)/\(∀k n,A≠ .float k n)/\(∀k a b,A≠ .complex k a b)/\(∀s,A≠ .string s):=by
 unfold SL at h
 split at h
 ·rename_i e _ _ _ _ _ hu
  have hu:=hY.und hu
  split at h
  ·rename_i T
   injection h with h;subst h
   obtain⟨b,o,C,el,rfl,_⟩:=iF r hx
   simp only [af] at hy;subst hy
   exact⟨false,bL fun D=>KX hu _ _,rfl,rfl,by simp,by simp,by simp,by simp,by simp,by simp⟩
  ·rename_i T
   injection h with h;subst h
   obtain⟨b,o,C,el,rfl,_⟩:=iF r hy
   simp only [af] at hx;subst hx
   exact⟨false,bL fun D=>qB hu _ _,rfl,rfl,by simp,by simp,by simp,by simp,by simp,by simp⟩
  ·injection h with h;subst h
   simp only [af] at hx hy;subst hx hy
   exact⟨true,bL fun D=>qB hu _ _,rfl,rfl,by simp,by simp,by simp,by simp,by simp,by simp⟩
  ·rename_i z1 T
   injection h with h;subst h
   simp only [af] at hx hy;subst hy
   rcases hx with⟨hz,rfl⟩ | ⟨hz,b,rfl,_⟩
   ·exact⟨true,bL fun D=>qB hu _ _,rfl,by simp [TV.holds,hz],by simp,by simp,by simp,by simp,by simp,by simp⟩
   ·exact⟨false,bL fun D=>KX hu _ _,rfl,by simp [TV.holds,hz],by simp,by simp,by simp,by simp,by simp,by simp⟩
  ·rename_i z1 T
   injection h with h;subst h
   simp only [af] at hx hy;subst hx
   rcases hy with⟨hz,rfl⟩ | ⟨hz,b,rfl,_⟩
   ·exact⟨true,bL fun D=>qB hu _ _,rfl,by simp [TV.holds,hz],by simp,by simp,by simp,by simp,by simp,by simp⟩
   ·exact⟨false,bL fun D=>qB hu _ _,rfl,by simp [TV.holds,hz],by simp,by simp,by simp,by simp,by simp,by simp⟩
  ·rename_i z1 T z2 U
   split at h
   ·rename_i k hk
    split at h
    ·rename_i hb
     injection h with h;subst h
     have hn:0 < k.n:=by simpa [Nat.blt_eq] using hb
     obtain⟨m,hm⟩:∃m,k.n=m+1:=⟨k.n - 1,by omega⟩
     have hs:bu P e=some (m+1):=by rw [<- hm];exact hY.size hk
     have cell:∀{z:Int} {T:List TV} {X:Value},af σ (.np z T) X->X= .pointer none\/af σ (.p T) X:=fun {z T X} hX=>by
      simp only [af] at hX
      rcases hX with⟨_,hX⟩ | ⟨_,hX⟩
      ·exact .inl hX
      ·exact .inr (Vb (by simp only [af];exact hX))
     have hz:∃z:Bool,(Op.equal ty A B).run P w= .ok z w:=by
      rcases cell hx with rfl | hx
      ·rcases cell hy with rfl | hy
       ·exact⟨true,bL fun D=>qB hu _ _⟩
       ·obtain⟨b',o',C',Ur,rfl,hC'⟩:=iF r hy
        exact⟨false,bL fun D=>qB hu _ _⟩
      ·obtain⟨b,o,C,el,rfl,hC⟩:=iF r hx
       rcases cell hy with rfl | hy
       ·exact⟨false,bL fun D=>KX hu _ _⟩
       ·obtain⟨b',o',C',Ur,rfl,hC'⟩:=iF r hy
        have hz:∃z:Bool,(sameAddr ⟨b,o,none⟩ ⟨b',o',none⟩).run P w= .ok z w:=by
         by_cases hbb:b=b'
         ·subst hbb
          exact⟨_,by simp only [sameAddr,beq_self_eq_true,if_true];rfl⟩
         ·have f1:=fun o=>jN hC o none
          have f2:=fun o=>jN hC' o none
          have s1:=jg hC
          have s2:=jg hC'
          exact⟨false,by simp [sameAddr,hbb,f1,f2,noView,viewAt,s1,s2,mayBeOne,stringish]⟩
        obtain⟨z,hz⟩:=hz
        exact⟨z,bL fun D=>by rw [KY hu hs];exact hz⟩
     obtain⟨z,hz⟩:=hz
     have hp:∃q,A= .pointer q:=by
      simp only [af] at hx
      rcases hx with⟨_,hx⟩ | ⟨_,_,hx,_⟩<;>exact⟨_,hx⟩
     obtain⟨q,rfl⟩:=hp
     exact⟨z,hz,rfl,trivial,by simp,by simp,by simp,by simp,by simp,by simp⟩
    ·cases h
   ·cases h
  ·rename_i T U
   split at h
   ·rename_i k hk
    split at h
    ·rename_i hb
     injection h with h;subst h
     have hn:0 < k.n:=by simpa [Nat.blt_eq] using hb
     obtain⟨m,hm⟩:∃m,k.n=m+1:=⟨k.n - 1,by omega⟩
     have hs:bu P e=some (m+1):=by rw [<- hm];exact hY.size hk
     obtain⟨b,o,C,el,rfl,hC⟩:=iF r hx
     obtain⟨b',o',C',Ur,rfl,hC'⟩:=iF r hy
     have hz:∃z:Bool,(sameAddr ⟨b,o,none⟩ ⟨b',o',none⟩).run P w= .ok z w:=by
      by_cases hbb:b=b'
      ·subst hbb
       exact⟨_,by simp only [sameAddr,beq_self_eq_true,if_true];rfl⟩
      ·have f1:=fun o=>jN hC o none
       have f2:=fun o=>jN hC' o none
       have s1:=jg hC
       have s2:=jg hC'
       exact⟨false,by simp [sameAddr,hbb,f1,f2,noView,viewAt,s1,s2,mayBeOne,stringish]⟩
     obtain⟨z,hz⟩:=hz
     exact⟨z,bL fun D=>by rw [KY hu hs];exact hz,rfl,trivial,by simp,by simp,by simp,by simp,by simp,by simp⟩
    ·cases h
   ·cases h
  ·cases h
 ·rename_i hu
  have hu:=hY.und hu
  have key:x.Pm=true->y.Pm=true->∃a b:Bool,A= .bool a/\B= .bool b/\x.holds a/\y.holds b:=fun h1 h2=>by
   obtain⟨a,ha,ha'⟩:=il hx h1
   obtain⟨b,hb,hb'⟩:=il hy h2
   exact⟨a,b,ha,hb,ha',hb'⟩
  have fin:x.Pm=true->y.Pm=true->v.Pm=true->(∀a b:Bool,x.holds a->y.holds b->v.holds (a==b))->∃z:Bool,(Op.equal ty A B).run P w= .ok z w/\v.Pm=true/\v.holds z/\A≠ .nilIface/\(∀cs,A= .agg cs->P.eqGuardType P.depth ty=false)/\(∀k n,A≠ .int k n)/\(∀k n,A≠ .float k n)/\(∀k a b,A≠ .complex k a b)/\(∀s,A≠ .string s):=fun h1 h2 h3 h4=>by
   obtain⟨a,b,rfl,rfl,ha,hb⟩:=key h1 h2
   exact⟨a==b,bL fun D=>run_equalIn_bool' w (D+1) ty a b hu,h3,h4 a b ha hb,by simp,by simp,by simp,by simp,by simp,by simp⟩
  split at h<;>first | (cases h;done) | skip
  all_goals injection h with h;subst h
  all_goals refine fin rfl rfl rfl fun a b ha hb=>?_
  all_goals first | trivial | skip
  all_goals cases a<;>cases b<;>simp_all [TV.holds]
 ·rename_i fs _ _ _ _ hu
  have hc:=(hY ty _ hu).2
  obtain⟨_,_,_,_,_,_,_,hcmp,_⟩:=hc
  obtain⟨h1,h2⟩:=hcmp rfl
  have hu:=hY.und hu
  split at h
  ·rename_i xs ys
   cases e:J8 Y xs ys fs.toList with
   | none=>rw [e] at h;cases h
   | some l=>
    rw [e] at h
    injection h with h;subst h
    simp only [af] at hx hy
    obtain⟨X,rfl,hx⟩:=hx
    obtain⟨Z,rfl,hy⟩:=hy
    have hf:P.fieldsOf ty=fs:=by simp [Program.fieldsOf,hu]
    obtain⟨z,hz,hq⟩:=Oa (w:=w) hY hx hy 9998 fs.toList l e
    refine⟨z,?_,rfl,?_,by simp,(fun _ _=>h2),by simp,by simp,by simp,by simp⟩
    ·show(Op.equalIn (9998+1+1) ty (.agg X) (.agg Z)).run P w=_
     rw [run_equalIn_struct w (9998+1) ty X Z (by rw [hf];exact hu) h1,hf]
     exact hz
    ·cases z with
     | true=>exact hq.1 rfl
     | false=>exact fun q=>by have:=hq.2 q;cases this
  ·cases h
 ·rename_i e _ _ _ _ _ hu
  have hu:=hY.und hu
  split at h
  ·injection h with h;subst h
   simp only [af] at hx hy
   obtain⟨Q,k,C,rfl,_⟩:=hx
   subst hy
   cases Q with
   | none=>exact⟨true,bL fun D=>FI hu _ _ _ _ _ _,rfl,trivial,by simp,by simp,by simp,by simp,by simp,by simp⟩
   | some q=>exact⟨false,bL fun D=>PH hu _ _ _ _ _ _,rfl,trivial,by simp,by simp,by simp,by simp,by simp,by simp⟩
  ·injection h with h;subst h
   simp only [af] at hx hy;subst hx hy
   exact⟨true,bL fun D=>FI hu _ _ _ _ _ _,rfl,rfl,by simp,by simp,by simp,by simp,by simp,by simp⟩
  ·cases h
 ·cases h
theorem Kh {v:TV} {z:Bool} (h1:v.Pm=true) (h2:v.holds z):af σ v (.bool z):=by
 cases v with
 | b x=>cases x with
  | none=>exact vJ _
  | some x=>simp only [TV.holds] at h2;subst h2;exact Va _
 | bp p=>cases z with
  | true=>exact Fp ⟨fun _=>h2,fun _=>rfl⟩
  | false=>exact Fp ⟨fun h=>(by cases h),fun h=>absurd h h2⟩
 | _=>cases h1
theorem Qf {v:TV} {z:Bool} (h1:v.Pm=true) (h2:v.holds z):(ZP v).Pm=true/\(ZP v).holds (!z):=by
 cases v with
 | b x=>cases x with
  | none=>exact⟨rfl,trivial⟩
  | some x=>simp only [TV.holds] at h2;subst h2;exact⟨rfl,rfl⟩
 | bp p=>cases z with
  | true=>exact⟨rfl,fun h=>h h2⟩
  | false=>exact⟨rfl,h2⟩
 | _=>cases h1
theorem Gh {Y:iM} (hY:ky P w0 Y) (r:TW P w0 σ g w) {op:BinOp} {ty:TypeId} {x y:TV} {c:Cs} {v:TV} (h:WZ Y op ty x y=some (c,v)) (hc:aS.ok c) {A B:Value} (hx:af σ x A) (hy:af σ y B) (ox oy:Operand):
  (eqGuard op ty ox oy A B).run P w= .ok () w/\ay P σ w (binOp op ty A B) v:=by
 unfold WZ at h
 split at h
 ·rename_i k a k' b
  refine⟨jh (fun cs e=>by obtain⟨n,rfl,_⟩:=gV hx;cases e) (by obtain⟨n,rfl,_⟩:=gV hx;simp),?_⟩
  split at h
  ·exact zV h hc hx hy ty
  ·exact zV h hc hx hy ty
  ·rename_i n1 n2
   split at h
   ·rename_i hk
    obtain rfl:=iq hk
    exact Gd h hc hx hy ty n1 n2
   ·cases h
 ·refine⟨jh (fun cs e=>by obtain⟨n,rfl,_⟩:=eU hx;cases e) (by obtain⟨n,rfl,_⟩:=eU hx;simp),?_⟩
  obtain⟨f1,f2⟩:=Qe (w:=w) (P:=P) (op:=op) hx hy ty
  split at h<;>first | (cases h;done) | skip
  all_goals (simp only [Option.some.injEq,Prod.mk.injEq] at h;obtain⟨rfl,rfl⟩:=h)
  all_goals first | exact f1 _ rfl | exact f2 _ rfl
 ·rename_i n1 n2
  split at h<;>first | (cases h;done) | skip
  ·cases e:SL Y ty x.Wn y.Wn with
   | none=>rw [e] at h;cases h
   | some u=>
    rw [e] at h
    simp only [Option.map_some,Option.some.injEq,Prod.mk.injEq] at h
    obtain⟨rfl,rfl⟩:=h
    obtain⟨z,h1,h2,h3,h4,h5,k1,k2,k3,k4⟩:=Gg hY r e (vK hx) (vK hy)
    exact⟨jh h5 h4,ay.of (dV h1 k1 k2 k3 k4).1 (Kh h2 h3)⟩
  ·cases e:SL Y ty x.Wn y.Wn with
   | none=>rw [e] at h;cases h
   | some u=>
    rw [e] at h
    simp only [Option.map_some,Option.some.injEq,Prod.mk.injEq] at h
    obtain⟨rfl,rfl⟩:=h
    obtain⟨z,h1,h2,h3,h4,h5,k1,k2,k3,k4⟩:=Gg hY r e (vK hx) (vK hy)
    obtain⟨q1,q2⟩:=Qf h2 h3
    exact⟨jh h5 h4,ay.of (dV h1 k1 k2 k3 k4).2 (Kh q1 q2)⟩
theorem SS {op:UnOp} {a:TV} {c:Cs} {v:TV} (h:tun op a=some (c,v)) (hc:aS.ok c) {X:Value} (hx:af σ a X):ay P σ w (Op.unary op X) v:=by
 unfold tun at h
 split at h
 ·rename_i k n
  simp only [af] at hx;subst hx
  have h':WY .sub k (some 0) (some n)=some (within k (0 - n), .i k (some (0 - n))):=rfl
  simp only [Option.some.injEq,Prod.mk.injEq] at h;obtain⟨rfl,rfl⟩:=h
  have e0:(0:Int) - n= -n:=by omega
  rw [e0] at h'
  have:=Gd (P:=P) (w:=w) h' hc (mg (σ:=σ) k 0) (mg k n) 0 (by decide) (by decide)
  have e:binOp .sub 0 (.int k 0) (.int k n)=Op.unary .neg (.int k n):=by simp [binOp,Op.unary]
  rw [e] at this
  exact this
 ·rename_i k
  obtain⟨n,rfl,_⟩:=gV hx
  simp only [Option.some.injEq,Prod.mk.injEq] at h;obtain⟨rfl,rfl⟩:=h
  exact ay.of (x:= .int k (k.wrap (-n))) (by simp [Op.unary,Op.intArith]) (qK (ko _ _))
 ·simp only [Option.some.injEq,Prod.mk.injEq] at h;obtain⟨rfl,rfl⟩:=h
  obtain⟨n,rfl,hn⟩:=eU hx
  have e:2 ^ (FloatKind.f64.format.exponentBits+FloatKind.f64.format.fractionBits)=9223372036854775808:=by decide
  refine ay.of (x:= .float .f64 (n ^^^ 9223372036854775808)) (by simp [Op.unary,Op.negFloat,e]) (Qd ?_)
  have:=Nat.xor_lt_two_pow (n:=64) (x:=n) (y:=9223372036854775808) (by simpa using hn) (by decide)
  simpa using this
 ·simp only [Option.some.injEq,Prod.mk.injEq] at h;obtain⟨rfl,rfl⟩:=h
  simp only [af] at hx;subst hx
  exact ay.of (by simp [Op.unary]) (Va _)
 ·simp only [Option.some.injEq,Prod.mk.injEq] at h;obtain⟨rfl,rfl⟩:=h
  simp only [af] at hx;obtain⟨z,rfl⟩:=hx
  exact ay.of (x:= .bool !z) (by simp [Op.unary]) (vJ _)
 ·simp only [Option.some.injEq,Prod.mk.injEq] at h;obtain⟨rfl,rfl⟩:=h
  simp only [af] at hx;obtain⟨z,rfl,hz⟩:=hx
  exact ay.of (x:= .bool !z) (by simp [Op.unary]) (Fp (by cases z<;>simp_all))
 ·cases h
theorem Ob {Y:iM} (hY:ky P w0 Y) {src dst:TypeId} {a:TV} {c:Cs} {v:TV} (h:UO Y src dst a=some (c,v)) (hc:aS.ok c) {X:Value} (hx:af σ a X):ay P σ w (convert src dst X) v:=by
 unfold UO at h
 split at h
 ·rename_i hs hd
  have hs:=hY.und hs
  have hd:=hY.und hd
  simp only [af] at hx;subst hx
  simp only [Option.some.injEq,Prod.mk.injEq] at h;obtain⟨rfl,rfl⟩:=h
  obtain⟨h1,h2⟩:=fA hc
  have hr:=zx (P:=P) (w:=w) hs hd ‹_› ‹_›
  rw [jA h1 h2] at hr
  exact ay.of hr (mg _ _)
 ·rename_i hs hd
  have hs:=hY.und hs
  have hd:=hY.und hd
  obtain⟨n,rfl,_⟩:=gV hx
  simp only [Option.some.injEq,Prod.mk.injEq] at h;obtain⟨rfl,rfl⟩:=h
  exact ay.of (zx (P:=P) (w:=w) hs hd _ n) (qK (ko _ _))
 ·rename_i ks _ _ _ _ _ _ _ hs hd
  have hs:=hY.und hs
  have hd:=hY.und hd
  obtain⟨n,rfl,_⟩:=gV hx
  simp only [Option.some.injEq,Prod.mk.injEq] at h;obtain⟨rfl,rfl⟩:=h
  exact ay.of (x:= .float .f64 (FloatKind.f64.nearest n)) (by cases e:ks.d<;>rw [e] at hs<;>simp [convert,run_underlying hs,run_underlying hd,Conv.intToFloat]) (Qd (zw _))
 ·rename_i ks _ _ _ _ _ hs hd
  have hs:=hY.und hs
  have hd:=hY.und hd
  obtain⟨n,rfl,hn⟩:=eU hx
  simp only [Option.some.injEq,Prod.mk.injEq] at h;obtain⟨rfl,rfl⟩:=h
  exact ay.of (x:= .float .f64 n) (by cases e:ks.d<;>rw [e] at hs<;>simp [convert,run_underlying hs,run_underlying hd,Conv.floatToFloat]) (Qd hn)
 ·cases h
end
end Go.TM
namespace Go.TM
open Go Go.RowKit Go.AM
section
variable {P:Program} {w0:World} {σ:TE} {g:G} {w:World}
theorem ky.info {Y:iM} (h:ky P w0 Y) {ty:TypeId} {k:TK} (hk:Y ty=some k):∃i z,P.info? ty=some i/\i.size=k.n/\i.bytes=k.bytes/\i.zero=some z/\∀σ,ai σ k.z z.cells.toList:=by
 obtain⟨_,i,z,h1,h2,h3,h4,h5,_⟩:=h ty k hk
 exact⟨i,z,h1,h2,h3,h4,h5⟩
theorem kC {place:Nat->Option (Nat×Nat)}:∀(ps:List (Nat×TV)) (qs:List (Nat×Value)) (cs:List TV) (C:Array Value) (r:List TV),ps.length=qs.length->(∀(i:Nat) (p:Nat×TV) (q:Nat×Value),ps[i]?=some p->qs[i]?=some q->p.1=q.1/\af σ p.2 q.2)->
  ai σ cs C.toList->sS place cs ps=some r->∃R,Instr.fill place C qs=some R/\ai σ r R.toList
 | [],[],cs,C,r,_,_,hc,h=>by
  simp only [sS,Option.some.injEq] at h
  subst h
  exact⟨C,rfl,hc⟩
 | [],q::qs,cs,C,r,hl,_,_,_=>by simp at hl
 | p::ps,[],cs,C,r,hl,_,_,_=>by simp at hl
 | (i,a)::ps,(j,x)::qs,cs,C,r,hl,hp,hc,h=>by
  obtain⟨hij,hax⟩:=hp 0 _ _ rfl rfl
  simp only at hij hax
  subst hij
  simp only [sS] at h
  cases hpl:place i with
  | none=>rw [hpl] at h;cases h
  | some q=>
   obtain⟨off,size⟩:=q
   rw [hpl] at h
   simp only at h
   split at h
   ·rename_i hh
    simp only [Bool.and_eq_true] at hh
    obtain⟨⟨h1,h2⟩,h3⟩:=hh
    have h2:=Nat.eq_of_beq_eq_true h2
    have h3:=Nat.le_of_ble_eq_true h3
    have hrel:=mh hax h1
    have hlen:=hrel.length
    have hcl:=hc.length
    have hxs:x.cells.size=size:=by rw [<- h2,hlen];simp
    have hcl2:cs.length=C.size:=by simpa using hcl
    have hC:off+x.cells.size<=C.size:=by omega
    have M8:=FO x.cells.toList 0 off C (by simpa using hC)
    simp only [Nat.add_zero] at M8
    have e2:(x.cells.zipIdx.foldl (fun cs (p:Value×Nat)=>cs.setIfInBounds (off+p.2) p.1) C).toList=C.toList.take off++x.cells.toList++C.toList.drop (off+x.cells.toList.length):=by
     rw [<- M8, <- Array.foldl_toList]
     simp
    have Uq:ai σ (cs.take off++a.cells++cs.drop (off+size)) (x.cells.zipIdx.foldl (fun cs (p:Value×Nat)=>cs.setIfInBounds (off+p.2) p.1) C).toList:=by
     rw [e2]
     have:x.cells.toList.length=size:=by rw [<- hlen,h2]
     rw [this]
     exact((hc.take off).append hrel).append (hc.drop (off+size))
    obtain⟨R,hR,hr⟩:=kC ps qs _ _ r (by simpa using hl) (fun k p q hk hq=>hp (k+1) p q (by simpa using hk) (by simpa using hq)) Uq h
    refine⟨R,?_,hr⟩
    simp only [Instr.fill,hpl]
    rw [if_neg (by simp;omega)]
    exact hR
   ·cases h
theorem Gi {Y:iM} (hY:ky P w0 Y):∀{fs:List Field} {pl:List (Nat×Nat)},zN Y fs=some pl->placesOf P fs=some pl
 | [],pl,h=>h
 | f::fs,pl,h=>by
  simp only [zN] at h
  split at h
  ·rename_i k l h1 h2
   injection h with h;subst h
   simp only [placesOf,hY.size h1,Gi hY h2]
  ·cases h
theorem qM {t:List TV} {a:Act} (ht:ai σ t a.tmps.toList) (parts:Array (Nat×Operand)):(parts.toList.map fun p=>(p.1,dw t p.2)).length=(parts.map fun(p:Nat×Operand)=>(p.1,a.eval p.2)).toList.length/\
  ∀(i:Nat) (p:Nat×TV) (q:Nat×Value),(parts.toList.map fun p=>(p.1,dw t p.2))[i]?=some p->(parts.map fun(p:Nat×Operand)=>(p.1,a.eval p.2)).toList[i]?=some q->p.1=q.1/\af σ p.2 q.2:=by
 refine⟨by simp,fun i p q hp hq=>?_⟩
 simp only [List.getElem?_map,Array.toList_map] at hp hq
 cases e:parts.toList[i]? with
 | none=>rw [e] at hp;cases hp
 | some z=>
  rw [e] at hp hq
  simp at hp hq
  subst hp hq
  exact⟨rfl,aC ht _⟩
theorem I9 {Y:iM} (hY:ky P w0 Y) {ty:TypeId} {k:TK} {fs:Array Field} {pl:List (Nat×Nat)} {r:List TV} {t:List TV} {a:Act} {parts:Array (Nat×Operand)} (hk:Y ty=some k) (hu:k.d= .struct fs) (hp:zN Y fs.toList=some pl)
  (ht:ai σ t a.tmps.toList) (h:sS (pl[·]?) k.z (parts.toList.map fun p=>(p.1,dw t p.2))=some r):
  ay P σ w (Instr.build ty (parts.map fun(p:Nat×Operand)=>(p.1,a.eval p.2))) (.agg r):=by
 obtain⟨i,v,hi,_,_,hzv,hz⟩:=hY.info hk
 obtain⟨h1,h2⟩:=qM ht parts
 obtain⟨R,hR,hr⟩:=kC _ _ _ _ _ h1 h2 (hz σ) h
 refine ay.of (run_build w ty _ R ?_) ⟨R,rfl,hr⟩
 have hu':=hY.und hk
 rw [hu] at hu'
 unfold Program.built
 simp only [hi,hu',hzv,sH (Gi hY hp)]
 simpa using hR
theorem Lx {Y:iM} (hY:ky P w0 Y) {ty e:TypeId} {n:Nat} {k k':TK} {r:List TV} {t:List TV} {a:Act} {parts:Array (Nat×Operand)} (hk:Y ty=some k) (hu:k.d= .array n e) (hs:Y e=some k')
  (ht:ai σ t a.tmps.toList) (h:sS (fun i=>some (i*k'.n,k'.n)) k.z (parts.toList.map fun p=>(p.1,dw t p.2))=some r):
  ay P σ w (Instr.build ty (parts.map fun(p:Nat×Operand)=>(p.1,a.eval p.2))) (.agg r):=by
 obtain⟨i,v,hi,_,_,hzv,hz⟩:=hY.info hk
 obtain⟨j,_,hj,hjs,_⟩:=hY.info hs
 obtain⟨h1,h2⟩:=qM ht parts
 obtain⟨R,hR,hr⟩:=kC _ _ _ _ _ h1 h2 (hz σ) h
 refine ay.of (run_build w ty _ R ?_) ⟨R,rfl,hr⟩
 have hu':=hY.und hk
 rw [hu] at hu'
 unfold Program.built
 simp only [hi,hu',hzv,hj,hjs]
 simpa using hR
theorem Oc {Y:iM} (hY:ky P w0 Y) {t:TypeId} {cs:List TV} {off:Nat} {v:TV} (h:UQ Y t cs off=some v) {C:Array Value} (hc:ai σ cs C.toList):ay P σ w (part t C off) v:=by
 unfold UQ at h
 split at h
 ·rename_i k hk
  have hag:=hY.agg hk
  split at h
  ·rename_i ha
   rw [ha] at hag
   split at h
   ·rename_i hl
    injection h with h;subst h
    refine ay.of (x:= .agg (C.extract off (off+k.n))) (by simp [part,jf hag,aT (hY.size hk)]) ⟨_,rfl,?_⟩
    have:=(hc.drop off).take k.n
    simpa [Array.toList_extract,List.take_drop,Nat.add_comm] using this
   ·cases h
  ·rename_i ha
   rw [ha] at hag
   obtain⟨v',hv,hr⟩:=hc.get h
   refine ay.of (x:=v') ?_ hr
   have:C[off]?=some v':=by simpa using hv
   simp [part,jf hag,this]
 ·cases h
theorem Od (r:TW P w0 σ g w) {T:List TV} {n:Nat} {C:Array Value} {e:TypeId} (hs:C.size=n*T.length) (hone:∀v∈C.toList,v.oneCell'=true) (h:∀(i:Nat) (a:TV),i < C.size->T[i % T.length]?=some a->∃v,C[i]?=some v/\af σ a v) {m:Nat} (hm:m<=n) (hbig:m<=68719476736):
  ∃σ',aJ P w0 σ g w σ' g (w.alloc (.cells C e (0,0)))/\af σ' (.s T (some (m:Int))) (.slice (some ⟨w.heap.size,0,none⟩) m n):=by
 obtain⟨f1,f2⟩:=r.free
 have hx:Ext σ (σ.put w.heap.size (.row T n)):=Ext.put f1
 refine⟨_,aJ.push r (.row T n) _ ⟨C,e,rfl,hs,hone,fun i a hi ha=>?_⟩,?_⟩
 ·obtain⟨v,hv,hr⟩:=h i a hi ha
  exact⟨v,hv,hr.ext hx⟩
 ·simp only [af]
  exact⟨_,_,_,rfl,(fun z hz=>by injection hz),⟨hm,hbig,fun h=>by cases h⟩,(fun h=>by cases h),fun a ha=>by
   injection ha with ha;subst ha
   exact⟨w.heap.size,0,n,by simp,by unfold TE.put;rw [if_pos rfl],by omega⟩⟩
theorem RQ (r:TW P w0 σ g w) {T:List TV} {n:Nat} {C:Array Value} {e:TypeId} (hs:C.size=n*T.length) (hone:∀v∈C.toList,v.oneCell'=true) (h:∀(i:Nat) (a:TV),i < C.size->T[i % T.length]?=some a->∃v,C[i]?=some v/\af σ a v) {s:Sem Next} {m:Nat} (hm:m<=n) (hbig:m<=68719476736)
  (hrun:s.run P w= .ok (.value (.slice (some ⟨w.heap.size,0,none⟩) m n)) (w.alloc (.cells C e (0,0)))):dO P w0 σ g w s (.s T (some (m:Int))):=by
 obtain⟨σ',h1,h2⟩:=Od r hs hone h hm hbig (e:=e)
 exact⟨_,_,σ',hrun,h1, .inl ⟨_,rfl,h2⟩⟩
theorem Oe {Y:iM} (hY:ky P w0 Y) (r:TW P w0 σ g w) {t e:TypeId} {k k':TK} (hk:Y t=some k) (hu:k.d= .slice e) (he:Y e=some k') {q q':IntKind} {n m:Int} {T:List TV} {cs:Cs} (hsub:TV.kL k'.z T=some cs) (hl:T.length=k'.n) (hb:k'.bytes<=4096) (h0:0 < k'.n) (hzl:k'.z.length=k'.n)
  (hc:aS.ok ((0,n)::(n,m)::(m,n)::(n,68719476736)::cs)) (hza:TV.atoms k'.z=true):dO P w0 σ g w (do pure (.value (<- Instr.makeSlice t (.int q n) (.int q' m)))) (.s T (some n)):=by
 obtain⟨c1,hc1⟩:=aS.aA.1 hc
 obtain⟨c2,hc2⟩:=aS.aA.1 hc1
 obtain⟨c3,hc3⟩:=aS.aA.1 hc2
 obtain⟨c4,hc4⟩:=aS.aA.1 hc3
 simp only at c1 c2 c3 c4
 have hmn:m=n:=by omega
 subst hmn
 obtain⟨i,z,hi,his,hib,hz,su⟩:=hY.info he
 have hu':=hY.und hk
 rw [hu] at hu'
 have su:=su σ
 have hlen:=su.length
 have hzs:z.cells.size=i.size:=by rw [hzl] at hlen;rw [his,hlen];simp
 have hbn:(i.bytes:Int)*m<=281474976710656:=by
  have h2:(i.bytes:Int)*m<=4096*m:=Int.mul_le_mul_of_nonneg_right (by omega) c1
  omega
 have hrun:=AM.run_make (P:=P) (w:=w) hu' hi hz q q' m c1 hbn (by omega)
 have hTs:=dD _ _ _ hsub hc4 _ su
 have hcell:∀j,j < m.toNat*i.size->((Array.range (m.toNat*i.size)).map fun j=>(if m.toNat*i.size=0 then #[] else z.cells)[j % (if m.toNat*i.size=0 then #[] else z.cells).size]!)[j]?=z.cells[j % i.size]?/\j % i.size < z.cells.size:=by
  intro j hj
  have hne:m.toNat*i.size≠0:=by omega
  have hlt:j % i.size < z.cells.size:=by rw [hzs];exact Nat.mod_lt _ (by omega)
  refine⟨?_,hlt⟩
  simp only [if_neg hne,hzs]
  simp [hj]
  rw [getElem!_def,Array.getElem?_eq_getElem hlt]
 have hm:((m.toNat:Nat):Int)=m:=by omega
 suffices key:dO P w0 σ g w (do pure (.value (<- Instr.makeSlice t (.int q m) (.int q' m)))) (.s T (some ((m.toNat:Nat):Int))) by rw [hm] at key;exact key
 refine RQ r (e:=e) (C:=(Array.range (m.toNat*i.size)).map fun j=>(if m.toNat*i.size=0 then #[] else z.cells)[j % (if m.toNat*i.size=0 then #[] else z.cells).size]!) (by simp [hl,his]) (fun v hv=>?_) (fun j a hj ha=>?_) (Nat.le_refl _) (by omega) (by simp [hrun])
 ·obtain⟨j,hj,rfl⟩:=List.getElem_of_mem hv
  have hj':j < m.toNat*i.size:=by simpa using hj
  obtain⟨h1,h2⟩:=hcell j hj'
  have:z.cells[j % i.size]∈z.cells.toList:=by simp
  have h3:=fB su hza _ this
  have h4:((Array.range (m.toNat*i.size)).map fun j=>(if m.toNat*i.size=0 then #[] else z.cells)[j % (if m.toNat*i.size=0 then #[] else z.cells).size]!).toList[j]?=some z.cells[j % i.size]:=by
   rw [Array.getElem?_toList,h1,Array.getElem?_eq_getElem h2]
  rw [List.getElem?_eq_getElem hj] at h4
  injection h4 with h4
  rw [h4];exact h3
 ·have hj':j < m.toNat*i.size:=by simpa using hj
  obtain⟨h1,h2⟩:=hcell j hj'
  rw [hl, <- his] at ha
  obtain⟨v,hv,hr⟩:=hTs.get ha
  refine⟨v,?_,hr⟩
  rw [h1]
  simpa using hv
theorem Dk {T:List TV}:∀(n:Nat) (cs:List TV) (c:Cs),Ka T n cs=some c->aS.ok c->T≠[]->∀vs,ai σ cs vs->vs.length=n*T.length/\∀(i:Nat) (a:TV),i < vs.length->T[i % T.length]?=some a->∃v,vs[i]?=some v/\af σ a v
 | 0,[],c,h,hc,hT,vs,hv=>by
  simp only [ai] at hv;subst hv
  exact⟨by simp,fun i a hi=>by simp at hi⟩
 | 0,_::_,c,h,hc,hT,vs,hv=>by simp only [Ka] at h;cases h
 | n+1,cs,c,h,hc,hT,vs,hv=>by
  simp only [Ka] at h
  split at h
  ·rename_i c1 d1 h1 h2
   injection h with h;subst h
   obtain⟨k1,k2⟩:=aS.aU.1 hc
   have hTl:0 < T.length:=List.length_pos_iff.2 hT
   have r1:=dD _ _ c1 h1 k1 _ (hv.take T.length)
   obtain⟨q1,q2⟩:=Dk n _ d1 h2 k2 hT _ (hv.drop T.length)
   have hl1:=r1.length
   have hl2:T.length<=vs.length:=by
    rw [List.length_take] at hl1;omega
   rw [List.length_drop] at q1
   refine⟨by rw [Nat.add_mul,Nat.one_mul];omega,fun i a hi ha=>?_⟩
   by_cases hlt:i < T.length
   ·rw [Nat.mod_eq_of_lt hlt] at ha
    obtain⟨v,hv',hr⟩:=r1.get ha
    rw [List.getElem?_take_of_lt hlt] at hv'
    exact⟨v,hv',hr⟩
   ·obtain⟨v,hv',hr⟩:=q2 (i - T.length) a (by rw [List.length_drop];omega) (by rw [Nat.mod_eq_sub_mod (by omega)] at ha;exact ha)
    rw [List.getElem?_drop] at hv'
    exact⟨v,by rw [show T.length+(i - T.length)=i by omega] at hv';exact hv',hr⟩
  ·cases h
theorem zW {Y:iM} (hY:ky P w0 Y) (r:TW P w0 σ g w) {ty e:TypeId} {k k':TK} (hk:Y ty=some k) (hu:k.d= .slice e) (he:Y e=some k') {len:Nat} {cs T:List TV} {c:Cs} {t:List TV} {a:Act} {parts:Array (Nat×Operand)} (h1:len*k'.n<=16777216) (h2:0 < k'.n) (h3:k'.z.length=k'.n) (h4:T.length=k'.n) (hat:TV.atoms cs=true)
  (ht:ai σ t a.tmps.toList) (h:sS (fun i=>some (i*k'.n,k'.n)) ((List.replicate len k'.z).flatten) (parts.toList.map fun p=>(p.1,dw t p.2))=some cs) (hr:Ka T len cs=some c) (hc:aS.ok c):
  dO P w0 σ g w (do pure (.value (<- Instr.buildSlice ty len (parts.map fun(p:Nat×Operand)=>(p.1,a.eval p.2))))) (.s T (some (len:Int))):=by
 obtain⟨i,v,hi,his,_,hzv,su⟩:=hY.info he
 have su:=su σ
 have hu':=hY.und hk
 rw [hu] at hu'
 obtain⟨p1,p2⟩:=qM ht parts
 have hvs:v.cells.size=i.size:=by have:=su.length;rw [his];simpa [h3] using this.symm
 rw [<- his] at h h1 h2 h3 h4
 have hrow:ai σ ((List.replicate len k'.z).flatten) ((Array.range (len*i.size)).map (v.cells[·% v.cells.size]!)).toList:=by
  refine ai.of ?_ ?_
  ·simp [h3]
  ·intro q x y0 hx hy0
   have hq:q < len*i.size:=by
    have:=(List.getElem?_eq_some_iff.1 hx).1
    simpa [h3] using this
   rw [ji _ len q (by rw [h3];exact hq)] at hx
   obtain⟨y,hy,hr⟩:=su.get hx
   have:(q % k'.z.length)=q % v.cells.size:=by rw [h3,hvs]
   rw [this] at hy
   have hy':v.cells[q % v.cells.size]?=some y:=by simpa using hy
   have hb:v.cells[q % v.cells.size]! =y:=by rw [getElem!_def,hy']
   have:y0=y:=by rw [<- hb];simpa [hq] using hy0.symm
   rw [this];exact hr
 obtain⟨R,hR,hrR⟩:=kC _ _ _ _ _ p1 p2 hrow h
 have hrun:=run_buildSlice (P:=P) w ty e len (parts.map fun(p:Nat×Operand)=>(p.1,a.eval p.2)) R i v hu' hi hzv (by simp;omega)
 have hTne:T≠[]:=by intro q;subst q;simp at h4;omega
 obtain⟨t1,t2⟩:=Dk len cs c hr hc hTne _ hrR
 have hone:=fB hrR hat
 have fin:(Instr.buildSlice ty len (parts.map fun(p:Nat×Operand)=>(p.1,a.eval p.2))).run P w= .ok (.slice (some ⟨w.heap.size,0,none⟩) len len) (w.alloc (.cells R e))->dO P w0 σ g w (do pure (.value (<- Instr.buildSlice ty len (parts.map fun(p:Nat×Operand)=>(p.1,a.eval p.2))))) (.s T (some (len:Int))):=fun hrun=>
  RQ r (e:=e) (C:=R) (by simpa using t1) hone (fun q a hq ha=>by
   obtain⟨v,hv,hr⟩:=t2 q a (by simpa using hq) ha
   exact⟨v,by simpa using hv,hr⟩) (Nat.le_refl _) (by have:=Nat.le_mul_of_pos_right len h2;omega) (by simp [hrun])
 by_cases hl0:len*i.size=0
 ·have hlen:len=0:=by
   rcases Nat.mul_eq_zero.1 hl0 with h | h
   ·exact h
   ·omega
  subst hlen
  refine fin ?_
  have hR':Instr.fill (fun i_1=>some (i_1*i.size,i.size)) #[] (parts.map fun(p:Nat×Operand)=>(p.1,a.eval p.2)).toList=some R:=by simpa [show Array.range 0=#[] from rfl] using hR
  simp only [Array.toList_map] at hR'
  have e0:Array.range 0=#[]:=rfl
  have hs:bu P e=some i.size:=by rw [his];exact hY.size he
  simp [Instr.buildSlice,run_underlying hu',aT hs,e0,hR',newRow]
 ·exact fin (hrun hl0 hR)
theorem Eo {Y:iM} (hY:ky P w0 Y) (r:TW P w0 σ g w) {ty e:TypeId} {k k':TK} (hk:Y ty=some k) (hu:k.d= .slice e) (he:Y e=some k') {len:Nat} {cs T:List TV} {c:Cs} {t:List TV} {a:Act} {parts:Array (Nat×Operand)} (h1:len*k'.n<=16777216) (h2:0 < k'.n) (h3:k'.z.length=k'.n) (h4:0 < len) (hat:TV.atoms cs=true)
  (ht:ai σ t a.tmps.toList) (h:sS (fun i=>some (i*k'.n,k'.n)) ((List.replicate len k'.z).flatten) (parts.toList.map fun p=>(p.1,dw t p.2))=some cs) (hr:TV.kL cs T=some c) (hc:aS.ok c):
  dO P w0 σ g w (do pure (.value (<- Instr.buildSlice ty len (parts.map fun(p:Nat×Operand)=>(p.1,a.eval p.2))))) (.oC T len):=by
 obtain⟨i,v,hi,his,_,hzv,su⟩:=hY.info he
 have su:=su σ
 have hu':=hY.und hk
 rw [hu] at hu'
 obtain⟨p1,p2⟩:=qM ht parts
 have hvs:v.cells.size=i.size:=by have:=su.length;rw [his];simpa [h3] using this.symm
 rw [<- his] at h h1 h2 h3
 have hrow:ai σ ((List.replicate len k'.z).flatten) ((Array.range (len*i.size)).map (v.cells[·% v.cells.size]!)).toList:=by
  refine ai.of ?_ ?_
  ·simp [h3]
  ·intro q x y0 hx hy0
   have hq:q < len*i.size:=by
    have:=(List.getElem?_eq_some_iff.1 hx).1
    simpa [h3] using this
   rw [ji _ len q (by rw [h3];exact hq)] at hx
   obtain⟨y,hy,hr⟩:=su.get hx
   have:(q % k'.z.length)=q % v.cells.size:=by rw [h3,hvs]
   rw [this] at hy
   have hy':v.cells[q % v.cells.size]?=some y:=by simpa using hy
   have hb:v.cells[q % v.cells.size]! =y:=by rw [getElem!_def,hy']
   have:y0=y:=by rw [<- hb];simpa [hq] using hy0.symm
   rw [this];exact hr
 obtain⟨R,hR,hrR⟩:=kC _ _ _ _ _ p1 p2 hrow h
 have hrun:=run_buildSlice (P:=P) w ty e len (parts.map fun(p:Nat×Operand)=>(p.1,a.eval p.2)) R i v hu' hi hzv (by simp;omega) (by have:=Nat.mul_pos h4 h2;omega) hR
 have hone:=fB hrR hat
 have hT:=dD _ _ _ hr hc _ hrR
 obtain⟨f1,f2⟩:=r.free
 have hx:Ext σ (σ.put w.heap.size (.row T 1)):=Ext.put f1
 have hlen:=Nat.le_mul_of_pos_right len h2
 refine⟨.value (.slice (some ⟨w.heap.size,0,none⟩) len len),_,_,by simp [hrun],aJ.push r (.row T 1) _ ⟨R,e,rfl,by have:=hT.length;simp at this;omega,hone,fun q a hq ha=>?_⟩, .inl ⟨_,rfl,?_⟩⟩
 ·have hl:=hT.length
  simp at hl
  rw [Nat.mod_eq_of_lt (by omega)] at ha
  obtain⟨v,hv,hr⟩:=hT.get ha
  exact⟨v,by simpa using hv,hr.ext hx⟩
 ·simp only [af]
  exact⟨_,_,rfl,⟨Nat.le_refl _,by omega⟩,by unfold TE.put;rw [if_pos rfl]⟩
def Ki (σ:TE):Option TV->Option Value->Prop
 | none,x=>x=none
 | some a,x=>∃v,x=some v/\af σ a v
theorem Fq {x:Option TV} {d l:Int} (h:Wo x d=some l) {X:Option Value} (hx:Ki σ x X):(X=none/\l=d)\/(∃k,X=some (.int k l)):=by
 unfold Wo at h
 split at h
 ·injection h with h;exact .inl ⟨hx,h.symm⟩
 ·injection h with h;subst h
  obtain⟨v,rfl,hv⟩:=hx
  simp only [af] at hv;subst hv
  exact .inr ⟨_,rfl⟩
 ·cases h
theorem jm {T:List TV} {x:Option Int} {X:Value} (h:af σ (.s T x) X):∃A k C,X= .slice A k C/\(∀z,x=some z->(k:Int)=z)/\k<=C/\(A=none->C=0)/\∀a,A=some a->∃r j m,a=⟨r,j*T.length,none⟩/\σ r=some (.row T m)/\j+C<=m:=by
 simp only [af] at h
 obtain⟨A,k,C,e,h1,h2,h3⟩:=h
 exact⟨A,k,C,e,h1,h2.1,h3⟩
theorem SV {T:List TV} {x:Option Int} {A:Option Addr} {k C:Nat} (h:af σ (.s T x) (.slice A k C)):k<=68719476736:=by
 simp only [af] at h
 obtain⟨A,k,C,e,h1,h2,h3⟩:=h
 injection e with e1 e2 e3
 subst e2
 exact h2.2.1
theorem LA {Y:iM} (hY:ky P w0 Y) {t e:TypeId} {k k':TK} (hk:Y t=some k) (hu:k.d= .slice e) (he:Y e=some k') {T:List TV} {n l u:Int} {lo hi:Option TV} (hlo:Wo lo 0=some l) (hhi:Wo hi n=some u) (hT:k'.n=T.length) (h0:0<=l) (h1:l<=u) (h2:u<=n)
  {X:Value} {lo' hi':Option Value} (hx:af σ (.s T (some n)) X) (hl:Ki σ lo lo') (hh:Ki σ hi hi'):ay P σ w (Instr.sliceAt t X lo' hi' none) (.s T (some (u - l))):=by
 obtain⟨A,q,C,rfl,hq,hC,El,hA⟩:=jm hx
 have hq:=hq n rfl
 have hlen:=SV hx
 have hu':=hY.und hk
 rw [hu] at hu'
 have hs:=hY.size he
 rw [hT] at hs
 have hat:(Instr.sliceAt t (.slice A q C) lo' hi' none).run P w=(Instr.slice t (.slice A q C) lo' hi' none).run P w:=by simp [Instr.sliceAt,run_underlying hu']
 have kl:(lo'=none/\l=0)\/∃k,lo'=some (.int k l):=Fq hlo hl
 have ku:(hi'=none/\u=q)\/∃k,hi'=some (.int k u):=by
  rcases Fq hhi hh with⟨a,b⟩ | h
  ·exact .inl ⟨a,by omega⟩
  ·exact .inr h
 have hb:=qE (P:=P) (w:=w) (n:=q) (C:=C) kl ku h0 h1 (by omega) hC
 refine ay.of (x:= .slice (if C=l.toNat then A else A.map (·.add (l.toNat*T.length))) (u.toNat - l.toNat) (C - l.toNat)) ?_ ?_
 ·rw [hat]
  simp [Instr.slice,run_underlying hu',hb,aT hs]
 ·simp only [af]
  refine⟨_,_,_,rfl,(fun z hz=>by injection hz with hz;omega),⟨by omega,by omega,fun h=>by cases h⟩,fun hn=>?_,fun a ha=>?_⟩
  ·by_cases hc:C=l.toNat
   ·omega
   ·rw [if_neg hc] at hn
    cases A with
    | none=>have:=El rfl;omega
    | some b=>cases hn
  ·by_cases hc:C=l.toNat
   ·rw [if_pos hc] at ha
    obtain⟨r,j,m,e1,e2,e3⟩:=hA a ha
    exact⟨r,j,m,e1,e2,by omega⟩
   ·rw [if_neg hc] at ha
    cases A with
    | none=>cases ha
    | some b=>
     obtain⟨r,j,m,rfl,e2,e3⟩:=hA b rfl
     simp only [Option.map_some,Option.some.injEq] at ha
     subst ha
     refine⟨r,j+l.toNat,m,?_,e2,by omega⟩
     rw [addr_add,Nat.add_mul]
theorem Qg {Y:iM} (hY:ky P w0 Y) {t e:TypeId} {k:TK} (hk:Y t=some k) (hu:k.d= .slice e) {k':TK} (he:Y e=some k') {l u:Int} {lo hi:Option TV} (hlo:Wo lo 0=some l) (hhi:Wo hi 0=some u) (h0:0<=l) (h1:l<=u) (h2:u<=0)
  {lo' hi':Option Value} (hl:Ki σ lo lo') (hh:Ki σ hi hi'):ay P σ w (Instr.sliceAt t (.slice none 0 0) lo' hi' none) (.val (.slice none 0 0)):=by
 have hu':=hY.und hk
 rw [hu] at hu'
 have hs:=hY.size he
 have hat:(Instr.sliceAt t (.slice none 0 0) lo' hi' none).run P w=(Instr.slice t (.slice none 0 0) lo' hi' none).run P w:=by simp [Instr.sliceAt,run_underlying hu']
 have hb:=qE (P:=P) (w:=w) (n:=0) (C:=0) (l:=l) (u:=u) (lo:=lo') (hi:=hi') (Fq hlo hl) (by
  rcases Fq hhi hh with⟨a,b⟩ | h
  ·exact .inl ⟨a,by simpa using b⟩
  ·exact .inr h) h0 h1 (by simpa using h2) (Nat.le_refl _)
 have e1:l.toNat=0:=by omega
 have e2:u.toNat=0:=by omega
 rw [e1,e2] at hb
 refine ay.of (x:= .slice none 0 0) ?_ (by simp only [af])
 rw [hat]
 simp [Instr.slice,run_underlying hu',hb,aT hs]
theorem Cc (r:TW P w0 σ g w) {T:List TV} {A:Option Addr} {n C:Nat} (hC:n<=C) (hA:∀a,A=some a->∃r j m,a=⟨r,j*T.length,none⟩/\σ r=some (.row T m)/\j+C<=m) (El:A=none->C=0):
  ∃news:List Value,news.length=n*T.length/\(∀v∈news,v.oneCell'=true)/\(∀(i:Nat) (a:TV),i < news.length->T[i % T.length]?=some a->∃v,news[i]?=some v/\af σ a v)/\(∀q,A=some q->∀j u,news[j]?=some u->w.cell? (q.add j)=some u):=by
 cases A with
 | none=>
  have:=El rfl
  have hn:n=0:=by omega
  subst hn
  exact⟨[],by simp,by simp,fun i a hi=>by simp at hi,fun q hq=>by cases hq⟩
 | some q=>
  obtain⟨b,j,m,rfl,hb,hm⟩:=hA q rfl
  obtain⟨O,hO,D,e,rfl,hD,hone,hT⟩:=r.blk _ _ hb
  have hle:j*T.length+n*T.length<=D.size:=by rw [hD, <- Nat.add_mul];exact Nat.mul_le_mul_right _ (by omega)
  refine⟨(D.toList.drop (j*T.length)).take (n*T.length),by simp;omega,fun v hv=>hone v (List.mem_of_mem_drop (List.mem_of_mem_take hv)),fun i a hi ha=>?_,fun q hq i u hu=>?_⟩
  ·have hi':i < n*T.length:=by simp at hi;omega
   obtain⟨v,hv,hr⟩:=hT (j*T.length+i) a (by omega) (by rw [Nat.add_comm,Nat.add_mul_mod_self_right];exact ha)
   refine⟨v,?_,hr⟩
   rw [List.getElem?_take_of_lt hi',List.getElem?_drop]
   simpa using hv
  ·injection hq with hq;subst hq
   have hi':i < n*T.length:=by have:=(List.getElem?_eq_some_iff.1 hu).1;simp at this;omega
   rw [List.getElem?_take_of_lt hi',List.getElem?_drop] at hu
   rw [addr_add,cell_of hO]
   simpa using hu
end
end Go.TM
namespace Go.TM
open Go Go.RowKit Go.AM
section
variable {P:Program} {w0:World} {σ:TE} {g:G} {w:World}
theorem SX (r:TW P w0 σ g w) {T:List TV} {A:Option Addr} {n C:Nat} (hC:n<=C) (hA:∀a,A=some a->∃r j m,a=⟨r,j*T.length,none⟩/\σ r=some (.row T m)/\j+C<=m) (El:A=none->C=0) {tx te:TypeId} (hk:P.underlying tx=some (.slice te)) {es:Nat} (hes:es=T.length):
  ∃news:List Value,Src P es tx (.slice A n C) n news w/\news.length=n*T.length/\(∀v∈news,v.oneCell'=true)/\(∀(i:Nat) (a:TV),i < news.length->T[i % T.length]?=some a->∃v,news[i]?=some v/\af σ a v)/\(∀q,A=some q->∀j u,news[j]?=some u->w.cell? (q.add j)=some u):=by
 subst hes
 obtain⟨news,h1,h2,h3,h4⟩:=Cc r hC hA El
 refine⟨news,?_,h1,h2,h3,h4⟩
 cases A with
 | none=>
  have:=El rfl
  have hn:n=0:=by omega
  subst hn
  have:news=[]:=List.length_eq_zero_iff.1 (by simpa using h1)
  subst this
  exact⟨.inl ⟨te,hk⟩,fun _=>rfl,run_firstCells_none w T.length 0 0 C,run_firstCells_none w.drew T.length 0 0 C,by simp,fun _ h=>by cases h⟩
 | some q=>exact Src.ofSlice w hk q n C news h1 (h4 q rfl) h2
theorem Og (r:TW P w0 σ g w) {Y:iM} (hY:ky P w0 Y) {t tx e te ty:TypeId} {k k':TK} (hk:Y t=some k) (hu:k.d= .slice e) (he:Y e=some k') (hx:P.underlying tx=some (.slice te)) {T:List TV} (hT:k'.n=T.length) (h0:0 < k'.n) (hb:k'.bytes<=256) (hzl:k'.z.length=k'.n) (hat:TV.atoms k'.z=true) (hz:∃c,TV.kL k'.z T=some c/\aS.ok c)
  {A XA:Option Addr} {n C m XC:Nat} (hC:n<=C) (El:A=none->C=0) (hA:∀a,A=some a->∃r j m,a=⟨r,j*T.length,none⟩/\σ r=some (.row T m)/\j+C<=m)
  (hXC:m<=XC) (hXA0:XA=none->XC=0) (hXA:∀a,XA=some a->∃r j m,a=⟨r,j*T.length,none⟩/\σ r=some (.row T m)/\j+XC<=m) (hbig:n+m<=1073741824):
  dO P w0 σ g w (do pure (.value (<- Builtin.append_ #[t,tx] ty #[.slice A n C, .slice XA m XC]))) (.s T (some ((n+m:Nat):Int))):=by
 have hu':=hY.und hk
 rw [hu] at hu'
 obtain⟨i,z,hi,his,hib,hzz,su⟩:=hY.info he
 have su:=su σ
 have hzs:z.cells.size=i.size:=by have:=su.length;rw [hzl] at this;rw [his,this];simp
 obtain⟨news,hS,hnl,hone,hnT,hcells⟩:=SX r hXC hXA hXA0 hx (es:=i.size) (by rw [his,hT])
 obtain⟨olds,hol,hoone,hoT,hoc⟩:=Cc r hC hA El
 have Vd:i.size=T.length:=by rw [his,hT]
 have same:dO P w0 σ g w (do pure (.value (<- Builtin.append_ #[t,tx] ty #[.slice A n C, .slice XA 0 XC]))) (.s T (some ((n:Nat):Int)))->m=0->dO P w0 σ g w (do pure (.value (<- Builtin.append_ #[t,tx] ty #[.slice A n C, .slice XA m XC]))) (.s T (some ((n+m:Nat):Int))):=fun h hm=>by subst hm;exact h
 have Xe:af σ (.s T (some ((n:Nat):Int))) (.slice A n C):=by simp only [af];exact⟨A,n,C,rfl,(fun z hz=>by injection hz),⟨hC,by omega,fun h=>by cases h⟩,El,hA⟩
 by_cases hm:m=0
 ·refine same ?_ hm
  subst hm
  refine dO.val r (x:= .slice A n C) ?_ Xe
  have:news=[]:=List.length_eq_zero_iff.1 (by simpa using hnl)
  subst this
  have:(Builtin.append_ #[t,tx] ty #[.slice A n C, .slice XA 0 XC]).run P w= .ok (.slice A n C) w:=by
   rcases hS.kind with⟨e',hk'⟩ | hk'<;>cases A<;>simp [Builtin.append_,run_underlying hu',run_underlying hk',sizeOf,run_typeInfo w hi,hS.len,hC,hS.cells,storeCells]
  simp [this]
 ·by_cases hroom:n+m<=C
  ·
   cases A with
   | none=>have:=El rfl;omega
   | some q=>
    obtain⟨b,j,M,rfl,hbt,hM⟩:=hA q rfl
    obtain⟨O,hO,D,el,rfl,hD,hDone,Y9⟩:=r.blk _ _ hbt
    have hl:(j+n)*T.length+m*T.length<=D.size:=by rw [hD, <- Nat.add_mul];exact Nat.mul_le_mul_right _ (by omega)
    have hst:=run_storeCells_at P b ((j+n)*T.length) el news 0 D w hO (by rw [hnl];omega) hone
    simp only [Nat.add_zero] at hst
    have hrun:(Builtin.append_ #[t,tx] ty #[.slice (some ⟨b,j*T.length,none⟩) n C, .slice XA m XC]).run P w= .ok (.slice (some ⟨b,j*T.length,none⟩) (n+m) C) (w.setRow b (D.toList.take ((j+n)*T.length)++news++D.toList.drop ((j+n)*T.length+news.length)).toArray):=by
     have e1:j*T.length+n*i.size=(j+n)*T.length:=by rw [Vd,Nat.add_mul]
     rcases hS.kind with⟨e',hk'⟩ | hk'<;>simp [Builtin.append_,run_underlying hu',run_underlying hk',sizeOf,run_typeInfo w hi,hS.len,hroom,hS.cells,addr_add,e1,hst]
    have hsz:(D.toList.take ((j+n)*T.length)++news++D.toList.drop ((j+n)*T.length+news.length)).toArray.size=D.size:=oJ (by rw [hnl];omega)
    refine⟨_,_,σ,by simp [hrun];rfl,aJ.set r b (.row T M) hbt (.cells (D.toList.take ((j+n)*T.length)++news++D.toList.drop ((j+n)*T.length+news.length)).toArray el (0,0)) ⟨_,el,rfl,by rw [hsz];exact hD,fun v hv=>?_,fun q a hq ha=>?_⟩ (setRow_size _ _ _) (fun k hk=>setRow_other _ _ _ _ hk) (setRow_heap _ _ _ _ _ _ hO) rfl rfl rfl, .inl ⟨_,rfl,?_⟩⟩
    ·simp only [List.mem_append] at hv
     rcases hv with(hv | hv) | hv
     ·exact hDone v (List.mem_of_mem_take hv)
     ·exact hone v hv
     ·exact hDone v (List.mem_of_mem_drop hv)
    ·rw [hsz] at hq
     have ht:(D.toList.take ((j+n)*T.length)).length=(j+n)*T.length:=by simp;omega
     rw [List.getElem?_toArray,List.append_assoc]
     by_cases h1:q < (j+n)*T.length
     ·rw [List.getElem?_append_left (by rw [ht];exact h1),List.getElem?_take_of_lt h1]
      obtain⟨v,hv,hr⟩:=Y9 q a hq ha
      exact⟨v,by simpa using hv,hr⟩
     ·rw [List.getElem?_append_right (by rw [ht];omega),ht]
      by_cases h2:q - (j+n)*T.length < news.length
      ·rw [List.getElem?_append_left h2]
       refine hnT _ a h2 ?_
       have:(q - (j+n)*T.length) % T.length=q % T.length:=by
        conv=>rhs;rw [show q=(q - (j+n)*T.length)+(j+n)*T.length by omega]
        rw [Nat.add_mul_mod_self_right]
       rw [this];exact ha
      ·rw [List.getElem?_append_right (by omega),List.getElem?_drop]
       obtain⟨v,hv,hr⟩:=Y9 q a hq ha
       refine⟨v,?_,hr⟩
       rw [show(j+n)*T.length+news.length+(q - (j+n)*T.length - news.length)=q by omega]
       simpa using hv
    ·simp only [af]
     exact⟨_,_,_,rfl,(fun z hz=>by injection hz),⟨hroom,by omega,fun h=>by cases h⟩,(fun h=>by cases h),fun a ha=>by injection ha with ha;subst ha;exact⟨b,j,M,rfl,hbt,hM⟩⟩
  ·
   have hCg:C < n+m:=by omega
   have hfit:Builtin.nextslicecap (n+m) C*i.bytes<=281474976710656:=growslice_fits hCg (by
    have h2:(n+m)*i.bytes<=1073741824*256:=Nat.mul_le_mul hbig (by omega)
    omega)
   have hf:(Builtin.firstCells i.size n (.slice A n C)).run P w.drew= .ok olds.toArray w.drew:=by
    cases A with
    | none=>
     have:=El rfl
     have hn:n=0:=by omega
     subst hn
     have:olds=[]:=List.length_eq_zero_iff.1 (by simpa using hol)
     subst this
     exact run_firstCells_none w.drew i.size 0 0 C
    | some q=>exact run_firstCells_some w.drew i.size n q n C olds (by rw [hol,Vd]) (hoc q rfl)
   have hr:=run_append_grow_src w t tx ty e i z hu' hi hzz A n C olds hf (.slice XA m XC) m news hS hCg (by omega) hfit
   have hge:=sJ w (n+m) C e
   have rd:=r.drew
   obtain⟨cz,hz1,hz2⟩:=hz
   have hzT:=dD _ _ _ hz1 hz2 _ su
   have ZW:(Builtin.zeroCells z.cells (grownCap w (n+m) C e - (n+m))).size=(grownCap w (n+m) C e - (n+m))*T.length:=by rw [vD,hzs,Vd]
   have hzz':∀q,q < (grownCap w (n+m) C e - (n+m))*T.length->(Builtin.zeroCells z.cells (grownCap w (n+m) C e - (n+m)))[q]?=z.cells[q % T.length]?/\q % T.length < z.cells.size:=by
    intro q hq
    have hlt:q % T.length < z.cells.size:=by rw [hzs,Vd];exact Nat.mod_lt _ (by omega)
    refine⟨?_,hlt⟩
    have hzs':z.cells.size=T.length:=by rw [hzs,Vd]
    simp only [Builtin.zeroCells,hzs']
    simp [hq]
    rw [getElem!_def,Array.getElem?_eq_getElem hlt]
   have holT:olds.length=n*T.length:=hol
   obtain⟨σ',q1,q2⟩:=Od (w:=w.drew) rd (e:=e) (n:=grownCap w (n+m) C e) (T:=T) (C:=((olds++news).toArray++Builtin.zeroCells z.cells (grownCap w (n+m) C e - (n+m)))) (m:=n+m) (by
    rw [Array.size_append,ZW]
    simp only [List.size_toArray,List.length_append,holT,hnl]
    rw [<- Nat.add_mul, <- Nat.add_mul]
    congr 1;omega) (fun v hv=>by
    simp only [Array.toList_append,List.mem_append] at hv
    rcases hv with(hv | hv) | hv
    ·exact hoone v hv
    ·exact hone v hv
    ·obtain⟨q,hq,rfl⟩:=List.getElem_of_mem hv
     have hq':q < (grownCap w (n+m) C e - (n+m))*T.length:=by rw [<- ZW];simpa using hq
     obtain⟨h1,h2⟩:=hzz' q hq'
     have h3:=fB su hat z.cells[q % T.length] (by simp)
     have h4:(Builtin.zeroCells z.cells (grownCap w (n+m) C e - (n+m))).toList[q]?=some z.cells[q % T.length]:=by
      rw [Array.getElem?_toList,h1,Array.getElem?_eq_getElem h2]
     rw [List.getElem?_eq_getElem hq] at h4
     injection h4 with h4
     rw [h4];exact h3) (fun q a hq ha=>by
    rw [Array.getElem?_append]
    split
    ·rename_i h1
     simp only [List.size_toArray,List.length_append] at h1
     rw [List.getElem?_toArray]
     by_cases h2:q < olds.length
     ·rw [List.getElem?_append_left h2]
      exact hoT q a h2 ha
     ·rw [List.getElem?_append_right (by omega)]
      refine hnT _ a (by omega) ?_
      have:(q - olds.length) % T.length=q % T.length:=by
       conv=>rhs;rw [show q=(q - olds.length)+n*T.length by omega]
       rw [Nat.add_mul_mod_self_right]
      rw [this];exact ha
    ·rename_i h1
     simp only [List.size_toArray,List.length_append] at h1 ⊢
     rw [Array.size_append,ZW] at hq
     simp only [List.size_toArray,List.length_append] at hq
     obtain⟨h2,_⟩:=hzz' (q - (olds.length+news.length)) (by omega)
     have:(q - (olds.length+news.length)) % T.length=q % T.length:=by
      conv=>rhs;rw [show q=(q - (olds.length+news.length))+(n+m)*T.length by rw [Nat.add_mul];omega]
      rw [Nat.add_mul_mod_self_right]
     rw [h2,this]
     obtain⟨v,hv,hr⟩:=hzT.get ha
     exact⟨v,by simpa using hv,hr⟩) hge (by omega)
   exact⟨_,_,σ',by simp [hr],(aJ.drew r).trans q1, .inl ⟨_,rfl,q2⟩⟩
theorem Qh (r:TW P w0 σ g w) {b J m M:Nat} {T:List TV} (hbt:σ b=some (.row T M)) {news:List Value} (hJ:J+m<=M) (hnl:news.length=m*T.length) (hone:∀v∈news,v.oneCell'=true) (hnT:∀(i:Nat) (a:TV),i < news.length->T[i % T.length]?=some a->∃v,news[i]?=some v/\af σ a v):
  ∃w',(storeCells ⟨b,J*T.length,none⟩ news).run P w= .ok () w'/\aJ P w0 σ g w σ g w':=by
 obtain⟨O,hO,D,el,rfl,hD,hDone,Y9⟩:=r.blk _ _ hbt
 have hl:J*T.length+m*T.length<=D.size:=by rw [hD, <- Nat.add_mul];exact Nat.mul_le_mul_right _ (by omega)
 have hst:=run_storeCells_at P b (J*T.length) el news 0 D w hO (by rw [hnl];omega) hone
 simp only [Nat.add_zero] at hst
 have hsz:(D.toList.take (J*T.length)++news++D.toList.drop (J*T.length+news.length)).toArray.size=D.size:=oJ (by rw [hnl];omega)
 refine⟨_,hst,aJ.set r b (.row T M) hbt (.cells (D.toList.take (J*T.length)++news++D.toList.drop (J*T.length+news.length)).toArray el (0,0)) ⟨_,el,rfl,by rw [hsz];exact hD,fun v hv=>?_,fun q a hq ha=>?_⟩ (setRow_size _ _ _) (fun k hk=>setRow_other _ _ _ _ hk) (setRow_heap _ _ _ _ _ _ hO) rfl rfl rfl⟩
 ·simp only [List.mem_append] at hv
  rcases hv with(hv | hv) | hv
  ·exact hDone v (List.mem_of_mem_take hv)
  ·exact hone v hv
  ·exact hDone v (List.mem_of_mem_drop hv)
 ·rw [hsz] at hq
  have ht:(D.toList.take (J*T.length)).length=J*T.length:=by simp;omega
  rw [List.getElem?_toArray,List.append_assoc]
  by_cases h1:q < J*T.length
  ·rw [List.getElem?_append_left (by rw [ht];exact h1),List.getElem?_take_of_lt h1]
   obtain⟨v,hv,hr⟩:=Y9 q a hq ha
   exact⟨v,by simpa using hv,hr⟩
  ·rw [List.getElem?_append_right (by rw [ht];omega),ht]
   by_cases h2:q - J*T.length < news.length
   ·rw [List.getElem?_append_left h2]
    refine hnT _ a h2 ?_
    have:(q - J*T.length) % T.length=q % T.length:=by
     conv=>rhs;rw [show q=(q - J*T.length)+J*T.length by omega]
     rw [Nat.add_mul_mod_self_right]
    rw [this];exact ha
   ·rw [List.getElem?_append_right (by omega),List.getElem?_drop]
    obtain⟨v,hv,hr⟩:=Y9 q a hq ha
    refine⟨v,?_,hr⟩
    rw [show J*T.length+news.length+(q - J*T.length - news.length)=q by omega]
    simpa using hv
theorem Oh (r:TW P w0 σ g w) {Y:iM} (hY:ky P w0 Y) {t tx e ty:TypeId} {k k':TK} (hk:Y t=some k) (hu:k.d= .slice e) (he:Y e=some k') {T:List TV} (hT:k'.n=T.length) {n m:Int} {D S:Value} (hd:af σ (.s T (some n)) D) (hs:af σ (.s T (some m)) S):
  dO P w0 σ g w (do pure (.value (<- Builtin.copy_ #[t,tx] ty #[D,S]))) (.i .i64 (some (min n m))):=by
 have hu':=hY.und hk
 rw [hu] at hu'
 have hz:=hY.size he
 rw [hT] at hz
 obtain⟨A,dn,C,rfl,hdn,hC,El,hA⟩:=jm hd
 obtain⟨B,sn,E,rfl,hsn,hE,hB0,hB⟩:=jm hs
 have hdn:=hdn n rfl
 have hsn:=hsn m rfl
 have hmin:min n m=((Nat.min sn dn:Nat):Int):=by
  have:Nat.min sn dn=min sn dn:=rfl
  rw [this];omega
 rw [hmin]
 by_cases h0:Nat.min sn dn=0
 ·rw [h0]
  refine dO.val r (x:= .int .i64 0) ?_ (mg _ _)
  cases A<;>cases B<;>simp [Builtin.copy_,run_underlying hu',Builtin.lenOf,h0,aT hz,Builtin.firstCells,loadCells,loadCellsFrom,storeCells,goInt]
 ·have h1:Nat.min sn dn<=sn:=Nat.min_le_left _ _
  have h2:Nat.min sn dn<=dn:=Nat.min_le_right _ _
  obtain⟨news,hnl,hone,hnT,hcells⟩:=Cc r (n:=Nat.min sn dn) (by omega) hB hB0
  cases A with
  | none=>have:=El rfl;omega
  | some q=>
   obtain⟨b,j,M,rfl,hbt,hM⟩:=hA q rfl
   cases B with
   | none=>have:=hB0 rfl;omega
   | some qb=>
    obtain⟨w',hst,hp⟩:=Qh r hbt (J:=j) (m:=Nat.min sn dn) (by omega) hnl hone hnT
    have hf:=run_firstCells_some (P:=P) w T.length (Nat.min sn dn) qb sn E news hnl (hcells qb rfl)
    have hrun:(Builtin.copy_ #[t,tx] ty #[.slice (some ⟨b,j*T.length,none⟩) dn C, .slice (some qb) sn E]).run P w= .ok (.int .i64 ((Nat.min sn dn:Nat):Int)) w':=by
     simp [Builtin.copy_,run_underlying hu',Builtin.lenOf,aT hz,hf,hst,goInt]
    exact⟨.value (.int .i64 ((Nat.min sn dn:Nat):Int)),w',σ,by simp [hrun],hp, .inl ⟨_,rfl,mg _ _⟩⟩
end
end Go.TM
namespace Go.TM
open Go Go.RowKit Go.AM
section
variable {P:Program} {w:World}
theorem Oi {k:IntKind}:∀{ns ms:List Int},ns.map (Value.int k)=ms.map (Value.int k)->ns=ms
 | [],[],_=>rfl
 | [],m::ms,h=>by simp at h
 | n::ns,[],h=>by simp at h
 | n::ns,m::ms,h=>by
  simp only [List.map_cons,List.cons.injEq,Value.int.injEq,true_and] at h
  rw [h.1,Oi h.2]
theorem SY {t:TypeId} {X Y:Value} (hX:oK P t X) (hY:oK P t Y) (w:World):∃b,(Op.equal t X Y).run P w= .ok b w/\(b=true↔X=Y):=by
 suffices H:∀D,∃b,(Op.equalIn (D+1+1) t X Y).run P w= .ok b w/\(b=true↔X=Y) from H 9998
 intro D
 rcases hX with⟨k,n,rfl,hu⟩ | ⟨k,e,ns,rfl,hu,he,hs⟩
 ·rcases hY with⟨k',m,rfl,hu'⟩ | ⟨k',e',ms,rfl,hu',_,_⟩
  ·rw [hu] at hu'
   injection hu' with q;injection q with q;subst q
   exact⟨_,run_equalIn_int w _ t k k n m hu,by rw [beq_iff_eq];simp⟩
  ·rw [hu] at hu';injection hu' with q;cases q
 ·rcases hY with⟨k',m,rfl,hu'⟩ | ⟨k',e',ms,rfl,hu',he',_⟩
  ·rw [hu] at hu';injection hu' with q;cases q
  ·rw [hu] at hu'
   injection hu' with q;injection q with q1 q2;subst q2
   rw [he] at he'
   injection he' with q;injection q with q;subst q
   obtain⟨i,hi,hsz⟩:=vC hs
   have hc:P.cellsOf e=1:=by simp [Program.cellsOf,hi,hsz]
   refine⟨ns==ms,?_,?_⟩
   ·rw [run_equalIn_array w (D+1) _ _ hu hi,hc]
    have:=sK (P:=P) he D ns ms q1 w ns.length 0 (by omega)
    simpa [List.range_eq_range'] using this
   ·rw [beq_iff_eq]
    constructor
    ·rintro rfl;rfl
    ·intro h
     injection h with h
     exact Oi (by simpa using congrArg Array.toList h)
def Ce (X:Value) (E:List MapEntry) (i:Nat) (R:Option (Nat×Value)):Prop:=
 (R=none/\∀e∈E,e.key≠X)\/∃j e,R=some (i+j,e.val)/\E[j]?=some e/\e.key=X
theorem Ce.next {X:Value} {E:List MapEntry} {i:Nat} {R:Option (Nat×Value)} {e:MapEntry} (h:Ce X E (i+1) R) (hn:e.key≠X):Ce X (e::E) i R:=by
 rcases h with⟨rfl,h⟩ | ⟨j,e',rfl,h1,h2⟩
 ·refine .inl ⟨rfl,fun q hq=>?_⟩
  rcases List.mem_cons.1 hq with rfl | hq
  ·exact hn
  ·exact h q hq
 ·exact .inr ⟨j+1,e',by congr 2;omega,by simpa using h1,h2⟩
theorem ry {t:TypeId} {X:Value} (hX:oK P t X):∀{E:List MapEntry} (i:Nat),(∀e∈E,oK P t e.key)->∃R,(Instr.findAsking t X E i).run P w= .ok R w/\Ce X E i R
 | [],i,_=>⟨none,rfl, .inl ⟨rfl,fun e he=>by cases he⟩⟩
 | e::E,i,h=>by
  obtain⟨b,hb,hi⟩:=SY hX (h e (by simp)) w
  cases b with
  | true=>exact⟨some (i,e.val),by simp [Instr.findAsking,hb], .inr ⟨0,e,rfl,rfl,(hi.1 rfl).symm⟩⟩
  | false=>
   obtain⟨R,hR,hF⟩:=ry hX (E:=E) (i+1) fun e he=>h e (by simp [he])
   exact⟨R,by simp [Instr.findAsking,hb,hR],hF.next fun q=>by have:=hi.2 q.symm;cases this⟩
theorem zX {t:TypeId} {k:IntKind} {n:Int} (hu:P.underlying t=some (.int k)):∀{E:List MapEntry} (i:Nat),(∀e∈E,oK P t e.key)->∃R,Instr.findNow (.int k) (.int k n) E i=some R/\Ce (.int k n) E i R
 | [],i,_=>⟨none,rfl, .inl ⟨rfl,fun e he=>by cases he⟩⟩
 | e::E,i,h=>by
  obtain⟨m,hm⟩:∃m,e.key= .int k m:=by
   rcases h e (by simp) with⟨k',m,hk,hu'⟩ | ⟨k',e',ms,_,hu',_,_⟩
   ·rw [hu] at hu'
    injection hu' with q;injection q with q;subst q
    exact⟨m,hk⟩
   ·rw [hu] at hu';injection hu' with q;cases q
  have hs:Instr.sameNow (.int k) (.int k n) e.key=some (n==m):=by rw [hm];simp [Instr.sameNow]
  cases hb:n==m with
  | true=>
   rw [hb] at hs
   exact⟨some (i,e.val),by simp [Instr.findNow,hs], .inr ⟨0,e,rfl,rfl,by rw [hm,eq_of_beq hb]⟩⟩
  | false=>
   rw [hb] at hs
   obtain⟨R,hR,hF⟩:=zX hu (n:=n) (E:=E) (i+1) fun e he=>h e (by simp [he])
   refine⟨R,by simp [Instr.findNow,hs,hR],hF.next fun q=>?_⟩
   rw [hm] at q
   injection q with _ q
   rw [q] at hb;simp at hb
theorem zY {t:TypeId} {X:Value} (hX:oK P t X) {E:List MapEntry} (h:∀e∈E,oK P t e.key):∃R,(Instr.findKey t X E).run P w= .ok R w/\Ce X E 0 R:=by
 rcases hX with⟨k,n,rfl,hu⟩ | ⟨k,e,ns,rfl,hu,he,hs⟩
 ·obtain⟨R,hR,hm⟩:=zX hu (n:=n) 0 h
  exact⟨R,by simp [Instr.findKey,run_underlying hu,hR],hm⟩
 ·have hX:oK P t (.agg (ns.map (Value.int k)).toArray):= .inr ⟨k,e,ns,rfl,hu,he,hs⟩
  obtain⟨R,hR,hm⟩:=ry (w:=w) hX 0 h
  refine⟨R,?_,hm⟩
  cases E with
  | nil=>
   simp [Instr.findKey,run_underlying hu,Instr.findNow]
   have:(Instr.findAsking t (.agg (ns.map (Value.int k)).toArray) [] 0).run P w= .ok none w:=rfl
   rw [this] at hR
   injection hR
  | cons a E=>
   have hn:Instr.findNow (.array ns.length e) (.agg (ns.map (Value.int k)).toArray) (a::E) 0=none:=by simp [Instr.findNow,Instr.sameNow]
   simp [Instr.findKey,run_underlying hu,hn,hR]
theorem Gj {ty kt et:TypeId} {r:Nat} {E:Array MapEntry} {c:Nat} {K Z:Value} (hu:P.underlying ty=some (.map kt et)) (hE:w.heap[r]?=some (.map E c)) (hk:∀e∈E.toList,oK P kt e.key) (hK:oK P kt K) (hZ:∀w:World,(zeroValue et).run P w= .ok Z w) (ok:Bool):
  (∃e∈E.toList,e.key=K/\(Instr.lookup ty (.map (some r)) K ok).run P w= .ok (if ok then .tuple #[e.val, .bool true] else e.val) w)\/
  ((∀e∈E.toList,e.key≠K)/\(Instr.lookup ty (.map (some r)) K ok).run P w= .ok (if ok then .tuple #[Z, .bool false] else Z) w):=by
 obtain⟨R,hR,hF⟩:=zY (w:=w) hK hk
 have hck:=jB hK E.isEmpty 9998 w
 rcases hF with⟨rfl,h⟩ | ⟨j,e,rfl,h1,h2⟩
 ·refine .inr ⟨h,?_⟩
  cases ok<;>simp [Instr.lookup,run_underlying hu,MapKept.run_getObj_map hE,hck,hR,hZ]
 ·refine .inl ⟨e,List.mem_of_getElem? h1,h2,?_⟩
  cases ok<;>simp [Instr.lookup,run_underlying hu,MapKept.run_getObj_map hE,hck,hR]
theorem Qi {ty kt et:TypeId} {r:Nat} {E:Array MapEntry} {c:Nat} {K V:Value} (hu:P.underlying ty=some (.map kt et)) (hE:w.heap[r]?=some (.map E c)) (hk:∀e∈E.toList,oK P kt e.key) (hK:oK P kt K):
  ∃E' c',(Instr.mapUpdate ty (.map (some r)) K V).run P w= .ok () {w with heap:=w.heap.setIfInBounds r (.map E' c')}/\
   (∀e∈E'.toList,(e.key=K/\e.val=V)\/e∈E.toList)/\(∃e∈E'.toList,e.key=K)/\∀e∈E.toList,∃e'∈E'.toList,e'.key=e.key:=by
 obtain⟨R,hR,hF⟩:=zY (w:=w) hK hk
 have hck:=jB hK false 9998 w
 rcases hF with⟨rfl,h⟩ | ⟨j,en,rfl,h1,h2⟩
 ·refine⟨E.push {key:=K,val:=V,born:=c},c+1,?_,fun e he=>?_,⟨{key:=K,val:=V,born:=c},by simp,rfl⟩,fun e he=>⟨e,by simp;exact .inl (by simpa using he),rfl⟩⟩
  ·simp [Instr.mapUpdate,run_underlying hu,MapKept.run_getObj_map hE,hck,hR,MapKept.run_setObj_map _ hE]
  ·simp only [Array.toList_push,List.mem_append,List.mem_singleton] at he
   rcases he with he | rfl
   ·exact .inr he
   ·exact .inl ⟨rfl,rfl⟩
 ·have hj':E[0+j]?=some en:=by simpa using h1
  have hks:((Option.map (fun x=>x.key) E[0+j]?).getD K)=K:=by rw [hj'];exact h2
  have hl:j < E.size:=(Array.getElem?_eq_some_iff.1 (by simpa using h1:E[j]?=some en)).1
  have hget:∀(q:Nat) (e:MapEntry),(E.modify (0+j) fun e=>{e with key:=K,val:=V})[q]?=some e->(e.key=K/\e.val=V)\/E[q]?=some e:=fun q e hq=>by
   rw [Array.getElem?_modify] at hq
   split at hq
   ·cases h0:E[q]? with
    | none=>rw [h0] at hq;cases hq
    | some x=>rw [h0] at hq;simp only [Option.map_some,Option.some.injEq] at hq;subst hq;exact .inl ⟨rfl,rfl⟩
   ·exact .inr hq
  have hset:(E.modify (0+j) fun e=>{e with key:=K,val:=V})[j]?=some {en with key:=K,val:=V}:=by
   rw [Array.getElem?_modify,if_pos (by omega),show E[j]?=some en by simpa using h1];rfl
  refine⟨E.modify (0+j) fun e=>{e with key:=K,val:=V},c,?_,fun e he=>?_,⟨_,List.mem_of_getElem? (i:=j) (by rw [Array.getElem?_toList];exact hset),rfl⟩,fun e he=>?_⟩
  ·simp only [Instr.mapUpdate,Sem.run_bind,run_underlying hu,MapKept.run_getObj_map hE,Result.andThen_ok,hck,hR,hks,oL hK,MapKept.run_setObj_map _ hE]
  ·obtain⟨q,hq⟩:=List.mem_iff_getElem?.1 he
   rw [Array.getElem?_toList] at hq
   rcases hget q e hq with h | h
   ·exact .inl h
   ·exact .inr (List.mem_of_getElem? (i:=q) (by rw [Array.getElem?_toList];exact h))
  ·obtain⟨q,hq⟩:=List.mem_iff_getElem?.1 he
   by_cases hqj:q=j
   ·subst hqj
    refine⟨_,List.mem_of_getElem? (i:=q) (by rw [Array.getElem?_toList];exact hset),?_⟩
    have:E[q]?=some e:=by simpa using hq
    rw [show E[q]?=some en by simpa using h1] at this
    injection this with this;subst this
    exact h2.symm
   ·refine⟨e,List.mem_of_getElem? (i:=q) ?_,rfl⟩
    have:(E.modify (0+j) fun e=>{e with key:=K,val:=V})[q]?=some e:=by
     rw [Array.getElem?_modify,if_neg (by omega)];simpa using hq
    rw [Array.getElem?_toList];exact this
end
end Go.TM
namespace Go.TM
open Go Go.RowKit Go.AM
section
variable {P:Program} {w0:World} {σ:TE} {g:G} {w:World} {ro:Option Nat}
theorem Kj {mx:Bool} {k k':IntKind} {a b:Int}:(mm mx (.int k a) (.int k' b)).run P w= .ok (.int k (if mx then max a b else min a b)) w:=by
 cases mx<;>simp [mm,Builtin.max2,Builtin.min2]<;>split<;>omega
theorem Cf {α β:Type} {x:Option α} {f:α->β} {y:β} (h:x.map f=some y):∃p,x=some p/\f p=y:=by
 cases x with
 | none=>cases h
 | some p=>exact⟨p,rfl,by simpa using h⟩
theorem Dl {k:IntKind}:∀{l:List TV} {vs:List Value},RI k l=true->ai σ l vs->∃ns:List Int,vs=ns.map (Value.int k)
 | [],vs,_,r=>by simp only [ai] at r;subst r;exact⟨[],rfl⟩
 | a::l,vs,h,r=>by
  simp only [ai] at r
  obtain⟨v,q,rfl,h1,h2⟩:=r
  simp only [RI,Bool.and_eq_true] at h
  obtain⟨ha,hl⟩:=h
  obtain⟨ns,rfl⟩:=Dl hl h2
  split at ha
  ·rename_i k' x
   obtain rfl:=iq ha
   cases x with
   | none=>simp only [af] at h1;obtain⟨n,rfl,_⟩:=h1;exact⟨n::ns,rfl⟩
   | some n=>simp only [af] at h1;subst h1;exact⟨n::ns,rfl⟩
  ·cases ha
theorem Gl {Y:iM} (hY:ky P w0 Y) {kt:TypeId} {x:TV} (h:W9 Y kt x=true) {X:Value} (hx:af σ x X):oK P kt X:=by
 unfold W9 at h
 split at h
 ·rename_i k hk
  have hu:=hY.und hk
  split at h
  ·rename_i q hd
   rw [hd] at hu
   split at h
   ·rename_i q' n
    obtain rfl:=iq h
    cases n with
    | none=>simp only [af] at hx;obtain⟨n,rfl,_⟩:=hx;exact .inl ⟨_,_,rfl,hu⟩
    | some n=>simp only [af] at hx;subst hx;exact .inl ⟨_,_,rfl,hu⟩
   ·cases h
  ·rename_i n e hd
   rw [hd] at hu
   split at h
   ·rename_i k' hk'
    have hu':=hY.und hk'
    split at h
    ·rename_i q hd'
     rw [hd'] at hu'
     split at h
     ·rename_i l
      simp only [Bool.and_eq_true] at h
      obtain⟨⟨h1,h2⟩,h3⟩:=h
      simp only [af] at hx
      obtain⟨vs,rfl,hl⟩:=hx
      have hlen:=hl.length
      obtain⟨ns,hns⟩:=Dl h2 hl
      rw [hns,List.length_map,Nat.eq_of_beq_eq_true h1] at hlen
      subst hlen
      exact .inr ⟨q,e,ns,by congr 1;exact Array.toList_inj.1 (by simpa using hns),hu,hu',by rw [hY.size hk',Nat.eq_of_beq_eq_true h3]⟩
     ·cases h
    ·cases h
   ·cases h
  ·cases h
 ·cases h
theorem map_set {E:Array MapEntry} {c:Nat} {r:Nat} {O:Obj} (hE:w.heap[r]?=some (.map E c)):(w.heap.setIfInBounds r O)[r]?=some O/\∀k,k≠r->(w.heap.setIfInBounds r O)[k]?=w.heap[k]?:=by
 have hlt:=(Array.getElem?_eq_some_iff.1 hE).1
 exact⟨by simp [hlt],fun k hk=>by rw [Array.getElem?_setIfInBounds_ne (Ne.symm hk)]⟩
theorem Dm {σ:TE} {x a:TV} {c:Cs} (h:Ff x=some (c,a)) (hc:aS.ok c) {X:Value} (hx:af σ x X):af σ a X:=by
 unfold Ff at h
 split at h
 ·rename_i k n
  simp only [Option.some.injEq,Prod.mk.injEq] at h
  obtain⟨rfl,rfl⟩:=h
  simp only [af] at hx ⊢
  exact⟨n,hx,fA hc⟩
 ·simp only [Option.some.injEq,Prod.mk.injEq] at h
  obtain⟨rfl,rfl⟩:=h
  exact hx
 ·cases h
theorem Xf (a:Int):bits .and .u64 a 2047=a % 2048:=by
 have h:((BitVec.ofInt 64 a)&&& (BitVec.ofInt 64 2047)).toNat=(a % 2048).toNat:=by
  rw [BitVec.toNat_and,BitVec.toNat_ofInt,BitVec.toNat_ofInt]
  have e:((2047:Int) % ((2 ^ 64:Nat):Int)).toNat=2 ^ 11 - 1:=by decide
  rw [e,Nat.and_two_pow_sub_one_eq_mod]
  omega
 show IntKind.wrap .u64 (((BitVec.ofInt 64 a)&&& (BitVec.ofInt 64 2047)).toNat:Int)=_
 rw [h]
 simp [IntKind.wrap,IntKind.bits,IntKind.signed]
 omega
theorem Xg (a b:Int) (h0:0<=b) (h1:b<=63):a.fdiv (2 ^ (min b.toNat 64))=a / 2 ^ b.toNat:=by
 rw [Nat.min_eq_left (by omega),Int.fdiv_eq_ediv_of_nonneg]
 exact Int.pow_nonneg (by decide)
theorem Xh (P:Program) (w:World) (a:Int) (h:0<=a) (t:TypeId):(binOp .rem t (.int .u64 a) (.int .u64 2048)).run P w= .ok (.int .u64 (a % 2048)) w:=by
 simp [binOp,Op.intDiv]
 rw [Int.tmod_eq_emod_of_nonneg h]
theorem Qj {Y:iM} (hY:ky P w0 Y) {an:Nat->Option (List TV)} {t:List TV} {a:Act} {o:Oper} {c:Cs} {v:TV} (r:TW P w0 σ g w) (ht:ai σ t a.tmps.toList) (h:I8 Y an t o=some (c,v)) (hc:aS.ok c):
  dO P w0 σ g w (execOp a.eval o) v:=by
 unfold I8 at h
 split at h
 ·rename_i x ho
  simp only [Option.some.injEq,Prod.mk.injEq] at h
  obtain⟨rfl,rfl⟩:=h
  exact dO.val r (x:=a.eval x) (by simp [execOp,ho]) (aC ht x)
 ·rename_i x ho
  simp only [Option.some.injEq,Prod.mk.injEq] at h
  obtain⟨rfl,rfl⟩:=h
  exact dO.val r (x:=a.eval x) (by simp [execOp,ho]) (aC ht x)
 ·
  rename_i cc x y ho
  obtain⟨u,hu,h⟩:=Cf h
  simp only [Prod.mk.injEq] at h
  obtain⟨rfl,rfl⟩:=h
  have hcc:=aC ht cc
  have hx:=aC ht x
  have hy:=aC ht y
  unfold Yd at hu
  have two:(dw t x).Pm=true->(dw t y).Pm=true->(dw t cc).Pm=true->dO P w0 σ g w (execOp a.eval o) (.b none):=fun h1 h2 h3=>by
   obtain⟨bx,ex,_⟩:=il hx h1
   obtain⟨by',ey,_⟩:=il hy h2
   obtain⟨bc,ec,_⟩:=il hcc h3
   cases bc with
   | true=>exact dO.val r (x:=a.eval x) (by simp [execOp,ho,ec,asBool]) (by rw [ex];exact vJ _)
   | false=>exact dO.val r (x:=a.eval y) (by simp [execOp,ho,ec,asBool]) (by rw [ey];exact vJ _)
  split at hu<;>first | (cases hu;done) | skip
  ·rename_i h1
   injection hu with hu;subst hu
   rw [h1] at hcc
   simp only [af] at hcc
   exact dO.val r (x:=a.eval x) (by simp [execOp,ho,hcc,asBool]) hx
  ·rename_i h1
   injection hu with hu;subst hu
   rw [h1] at hcc
   simp only [af] at hcc
   exact dO.val r (x:=a.eval y) (by simp [execOp,ho,hcc,asBool]) hy
  all_goals
   rename_i h1 h2 h3
   injection hu with hu;subst hu
   exact two (by rw [h2];rfl) (by rw [h3];rfl) (by rw [h1];rfl)
 ·
  rename_i ty parts ho
  split at h
  ·rename_i k hk
   split at h
   ·rename_i fs hu
    split at h
    ·rename_i pl hp
     obtain⟨cs,hcs,h⟩:=Cf h
     simp only [Prod.mk.injEq] at h
     obtain⟨rfl,rfl⟩:=h
     exact(ay.ans r (I9 hY hk hu hp ht hcs)).to (by simp [execOp,ho])
    ·cases h
   ·rename_i n e hu
    split at h
    ·rename_i k' hs
     obtain⟨cs,hcs,h⟩:=Cf h
     simp only [Prod.mk.injEq] at h
     obtain⟨rfl,rfl⟩:=h
     exact(ay.ans r (Lx hY hk hu hs ht hcs)).to (by simp [execOp,ho])
    ·cases h
   ·cases h
  ·cases h
 ·
  rename_i ty len parts ho
  split at h
  ·rename_i k hk
   split at h
   ·rename_i e hu
    split at h
    ·rename_i k' he
     split at h
     ·rename_i cs hcs
      split at h
      ·rename_i hh
       simp only [Bool.and_eq_true] at hh
       obtain⟨⟨⟨h1,h2⟩,h3⟩,h5⟩:=hh
       split at h
       ·rename_i h4
        obtain⟨cc,hcc,h⟩:=Cf h
        simp only [Prod.mk.injEq] at h
        obtain⟨rfl,rfl⟩:=h
        exact(zW hY r hk hu he (Nat.le_of_ble_eq_true h1) (by simpa [Nat.blt_eq] using h2) (Nat.eq_of_beq_eq_true h3) (Nat.eq_of_beq_eq_true h4) h5 ht hcs hcc hc).to (by simp [execOp,ho])
       ·split at h
        ·rename_i h6
         obtain⟨cc,hcc,h⟩:=Cf h
         simp only [Prod.mk.injEq] at h
         obtain⟨rfl,rfl⟩:=h
         exact(Eo hY r hk hu he (Nat.le_of_ble_eq_true h1) (by simpa [Nat.blt_eq] using h2) (Nat.eq_of_beq_eq_true h3) (by simpa [Nat.blt_eq] using h6) h5 ht hcs hcc hc).to (by simp [execOp,ho])
        ·cases h
      ·cases h
     ·cases h
    ·cases h
   ·cases h
  ·cases h
 ·
  rename_i x ho
  split at h
  ·rename_i T hT
   simp only [Option.some.injEq,Prod.mk.injEq] at h
   obtain⟨rfl,rfl⟩:=h
   have hx:=vK (aC ht x)
   rw [hT] at hx
   obtain⟨b,q,C,e,hb,_⟩:=iF r hx
   exact dO.val r (x:=a.eval x) (by simp [execOp,ho,hb]) hx
  ·rename_i z T hT
   simp only [Option.some.injEq,Prod.mk.injEq] at h
   obtain⟨rfl,rfl⟩:=h
   have h1:=(aS.aA.1 hc).1
   simp only at h1
   have hx:=vK (aC ht x)
   rw [hT] at hx
   have hx:af σ (.p T) (a.eval x):=by
    simp only [af] at hx
    rcases hx with⟨hz,_⟩ | ⟨_,hx⟩
    ·omega
    ·exact Vb (by simp only [af];exact hx)
   obtain⟨b,q,C,e,hb,_⟩:=iF r hx
   exact dO.val r (x:=a.eval x) (by simp [execOp,ho,hb]) hx
  ·cases h
 ·
  rename_i op ty x y lz ho
  split at h
  ·unfold Yc at h
   split at h
   ·rename_i c1 a1 c2 b1 h1 h2
    split at h
    ·rename_i c3 v3 h3
     simp only [Option.some.injEq,Prod.mk.injEq] at h
     obtain⟨rfl,rfl⟩:=h
     obtain⟨q1,q2⟩:=aS.aU.1 hc
     obtain⟨q2,q3⟩:=aS.aU.1 q2
     obtain⟨hg,hb⟩:=Gh (w:=w) hY r h3 q3 (Dm h1 q1 (aC ht x)) (Dm h2 q2 (aC ht y)) x y
     exact(ay.ans r hb).to (by simp [execOp,ho,hg])
    ·cases h
   ·cases h
  ·unfold tdbl at h
   split at h
   ·rename_i a1 k1 b1 h1 h2
    simp only [Option.some.injEq,Prod.mk.injEq] at h
    obtain⟨rfl,rfl⟩:=h
    obtain⟨q1,q2⟩:=aS.aA.1 hc
    obtain⟨q2,_⟩:=aS.aA.1 q2
    simp only at q1 q2
    have e:b1=1:=by omega
    subst e
    have hx:=aC ht x
    have hy:=aC ht y
    rw [h1] at hx
    rw [h2] at hy
    simp only [af] at hx hy
    refine dO.val r (x:= .int .u64 ((a1*2) % 18446744073709551616)) ?_ (by simp only [af])
    have e2:IntKind.u64.wrap (a1*2)=(a1*2) % 18446744073709551616:=by simp [IntKind.wrap,IntKind.bits,IntKind.signed]
    simp [execOp,ho,hx,hy,binOp,Op.shift,IntKind.bits,e2,eqGuard]
   ·rename_i a1 k1 b1 h1 h2
    simp only [Option.some.injEq,Prod.mk.injEq] at h
    obtain⟨rfl,rfl⟩:=h
    obtain⟨q1,q2⟩:=aS.aA.1 hc
    obtain⟨q2,_⟩:=aS.aA.1 q2
    simp only at q1 q2
    have hx:=aC ht x
    have hy:=aC ht y
    rw [h1] at hx
    rw [h2] at hy
    simp only [af] at hx hy
    refine dO.val r (x:= .int .u64 (a1 / 2 ^ b1.toNat)) ?_ (by simp only [af])
    have hn:¬b1 < 0:=by omega
    have e2:=Xg a1 b1 q1 q2
    simp [execOp,ho,hx,hy,binOp,Op.shift,IntKind.bits,hn,e2,eqGuard]
   ·rename_i a1 b1 h1 h2
    simp only [Option.some.injEq,Prod.mk.injEq] at h
    obtain⟨rfl,rfl⟩:=h
    obtain⟨q1,q2⟩:=aS.aA.1 hc
    obtain⟨q2,_⟩:=aS.aA.1 q2
    simp only at q1 q2
    have e:b1=2047:=by omega
    subst e
    have hx:=aC ht x
    have hy:=aC ht y
    rw [h1] at hx
    rw [h2] at hy
    simp only [af] at hx hy
    refine dO.val r (x:= .int .u64 (bits .and .u64 a1 2047)) ?_ (by rw [Xf];simp only [af])
    simp [execOp,ho,hx,hy,binOp,Op.intBits,bits,eqGuard]
   ·rename_i a1 b1 h1 h2
    simp only [Option.some.injEq,Prod.mk.injEq] at h
    obtain⟨rfl,rfl⟩:=h
    obtain⟨q1,q2⟩:=aS.aA.1 hc
    obtain⟨q2,q3⟩:=aS.aA.1 q2
    obtain⟨q3,_⟩:=aS.aA.1 q3
    simp only at q1 q2 q3
    have e:b1=2048:=by omega
    subst e
    have hx:=aC ht x
    have hy:=aC ht y
    rw [h1] at hx
    rw [h2] at hy
    simp only [af] at hx hy
    refine dO.val r (x:= .int .u64 (a1 % 2048)) ?_ (by simp only [af])
    simp [execOp,ho,hx,hy,Xh P w a1 q3,eqGuard]
   ·cases h
  ·obtain⟨hg,hb⟩:=Gh (w:=w) hY r h hc (aC ht x) (aC ht y) x y
   exact(ay.ans r hb).to (by simp [execOp,ho,hg])
 ·
  rename_i op ty x ho
  exact(ay.ans r (SS h hc (aC ht x))).to (by simp [execOp,ho])
 ·
  rename_i src dst x ho
  exact(ay.ans r (Ob hY h hc (aC ht x))).to (by simp [execOp,ho])
 ·
  rename_i fn fs cs ho
  split at h
  ·rename_i f
   simp only [Option.some.injEq,Prod.mk.injEq] at h
   obtain⟨rfl,rfl⟩:=h
   refine dO.val r (x:= .func (.func f) (fs.map a.eval) (cs.map a.eval)) (by simp [execOp,ho,Instr.makeFunc]) ?_
   simp only [af]
   exact⟨_,_,rfl,by simpa using oV ht fs.toList,by simpa using oV ht cs.toList⟩
  ·cases h
 ·
  rename_i ty ho
  split at h
  ·rename_i k hk
   split at h
   ·rename_i kt et q hu hq
    simp only [Option.some.injEq,Prod.mk.injEq] at h
    obtain⟨rfl,rfl⟩:=h
    obtain⟨f1,f2⟩:=r.free
    refine⟨.value (.map (some w.heap.size)),_,_,by simp [execOp,ho,run_makeMap],aJ.push r (.map kt q) (.map #[] 0) ⟨#[],0,rfl,fun e he=>by simp at he⟩, .inl ⟨_,rfl,?_⟩⟩
    simp only [af]
    exact⟨w.heap.size,rfl,by unfold TE.put;rw [if_pos rfl]⟩
   ·cases h
  ·cases h
 ·
  rename_i ty m x ok ho
  split at h
  ·rename_i k hk
   split at h
   ·rename_i kt e Ye v hd hm
    split at h
    ·rename_i k' hk'
     split at h
     ·rename_i cc hcc
      split at h
      ·rename_i hh
       simp only [Bool.and_eq_true] at hh
       obtain⟨⟨⟨h1,h2⟩,h3⟩,h4⟩:=hh
       obtain rfl:=Nat.eq_of_beq_eq_true h1
       simp only [Option.some.injEq,Prod.mk.injEq] at h
       obtain⟨rfl,rfl⟩:=h
       have hM:=aC ht m
       rw [hm] at hM
       simp only [af] at hM
       obtain⟨b,hb,hσ⟩:=hM
       obtain⟨O,hO,E,clk,rfl,hE⟩:=r.blk _ _ hσ
       have hu:=hY.und hk
       rw [hd] at hu
       have hK:=Gl hY h2 (aC ht x)
       obtain⟨_,i,z,hi,hn,_,hz,su,_,hzg⟩:=hY e k' hk'
       have hvc:v.cells=[v]:=by cases v<;>first | rfl | cases h3
       have hzz:af σ v z:=by
        have q1:=dD k'.z v.cells _ hcc hc _ (su σ)
        rw [hvc] at q1
        simp only [ai] at q1
        obtain⟨u,_,hu1,hu2,rfl⟩:=q1
        have hzc:z.cells=#[z]:=by
         cases z with
         | agg cs=>
          exfalso
          have:Em k'=true:=hzg.symm
          rw [this] at h4;cases h4
         | _=>rfl
        rw [hzc] at hu1
        simp at hu1
        rw [hu1];exact hu2
       have hrun:=Gj (w:=w) hu hO (fun e he=>(hE e (by simpa using he)).1) hK (fun w=>lH hi hz w) ok
       rcases hrun with⟨en,he,hek,hrun⟩ | ⟨_,hrun⟩
       ·refine dO.val r (x:=if ok then .tuple #[en.val, .bool true] else en.val) (by cases ok<;>simp [execOp,ho,hb,hrun]) ?_
        have hv:=(hE en (by simpa using he)).2
        cases ok
        ·exact hv
        ·simp only [if_true,af,ai];exact⟨_,rfl,_,_,rfl,hv,_,_,rfl,⟨true,rfl⟩,rfl⟩
       ·refine dO.val r (x:=if ok then .tuple #[z, .bool false] else z) (by cases ok<;>simp [execOp,ho,hb,hrun]) ?_
        cases ok
        ·exact hzz
        ·simp only [if_true,af,ai];exact⟨_,rfl,_,_,rfl,hzz,_,_,rfl,⟨false,rfl⟩,rfl⟩
      ·cases h
     ·cases h
    ·cases h
   ·cases h
  ·cases h
 ·
  rename_i ty m x y ho
  split at h
  ·rename_i k hk
   split at h
   ·rename_i kt e Ye v hd hm
    split at h
    ·rename_i cc hcc
     split at h
     ·rename_i hh
      simp only [Bool.and_eq_true] at hh
      obtain⟨⟨h1,h2⟩,h3⟩:=hh
      obtain rfl:=Nat.eq_of_beq_eq_true h1
      simp only [Option.some.injEq,Prod.mk.injEq] at h
      obtain⟨rfl,rfl⟩:=h
      have hM:=aC ht m
      rw [hm] at hM
      simp only [af] at hM
      obtain⟨b,hb,hσ⟩:=hM
      obtain⟨O,hO,E,clk,rfl,hE⟩:=r.blk _ _ hσ
      have hu:=hY.und hk
      rw [hd] at hu
      have hK:=Gl hY h2 (aC ht x)
      have hV:=lS _ _ _ hcc hc _ (aC ht y)
      obtain⟨E',c',hrun,hE',_⟩:=Qi (w:=w) (V:=a.eval y) hu hO (fun e he=>(hE e (by simpa using he)).1) hK
      obtain⟨s1,s2⟩:=map_set (O:= .map E' c') hO
      refine⟨.skip,{w with heap:=w.heap.setIfInBounds b (.map E' c')},σ,by simp [execOp,ho,hb,hrun],aJ.set r b (.map kt v) hσ (.map E' c') ⟨E',c',rfl,fun e he=>?_⟩ (by simp) s2 s1 rfl rfl rfl, .inr ⟨rfl,rfl⟩⟩
      rcases hE' e (by simpa using he) with⟨q1,q2⟩ | he
      ·rw [q1,q2];exact⟨hK,hV⟩
      ·exact hE e (by simpa using he)
     ·cases h
    ·cases h
   ·cases h
  ·cases h
 ·
  rename_i ty l cp ho
  split at h
  ·rename_i k hk
   split at h
   ·rename_i e hu
    split at h
    ·rename_i k' q n q' m he hl hm
     split at h
     ·rename_i cs hcs
      split at h
      ·rename_i hh
       simp only [Bool.and_eq_true] at hh
       obtain⟨⟨⟨⟨h1,h2⟩,h3⟩,h4⟩,h5⟩:=hh
       simp only [Option.some.injEq,Prod.mk.injEq] at h
       obtain⟨rfl,rfl⟩:=h
       have el:=aC ht l
       have em:=aC ht cp
       rw [hl] at el
       rw [hm] at em
       simp only [af] at el em
       refine(Oe hY r hk hu he (q:=q) (q':=q') hcs (Nat.eq_of_beq_eq_true h1) (Nat.le_of_ble_eq_true h2) (by simpa [Nat.blt_eq] using h3) (Nat.eq_of_beq_eq_true h4) hc h5).to ?_
       simp [execOp,ho,el,em]
      ·cases h
     ·cases h
    ·cases h
   ·cases h
  ·cases h
 ·
  rename_i ty x lo hi ho
  have hb:∀z:Option Operand,Ki σ (z.map (dw t)) (z.map a.eval):=fun z=>by
   cases z with
   | none=>rfl
   | some z=>exact⟨_,rfl,aC ht z⟩
  have hx:=aC ht x
  split at h
  ·rename_i k hk
   split at h
   ·rename_i e T n hu hT
    rw [hT] at hx
    split at h
    ·rename_i k' l u he hl hu'
     split at h
     ·rename_i hT'
      simp only [Option.some.injEq,Prod.mk.injEq] at h
      obtain⟨rfl,rfl⟩:=h
      obtain⟨c1,hc1⟩:=aS.aA.1 hc
      obtain⟨c2,hc2⟩:=aS.aA.1 hc1
      obtain⟨c3,_⟩:=aS.aA.1 hc2
      exact(ay.ans r (LA (w:=w) hY hk hu he hl hu' (Nat.eq_of_beq_eq_true hT') c1 c2 c3 hx (hb lo) (hb hi))).to (by simp [execOp,ho])
     ·cases h
    ·cases h
   ·rename_i e hu hT
    rw [hT] at hx
    simp only [af] at hx
    split at h
    ·rename_i k' l u he hl hu'
     simp only [Option.some.injEq,Prod.mk.injEq] at h
     obtain⟨rfl,rfl⟩:=h
     obtain⟨c1,hc1⟩:=aS.aA.1 hc
     obtain⟨c2,hc2⟩:=aS.aA.1 hc1
     obtain⟨c3,_⟩:=aS.aA.1 hc2
     refine(ay.ans r (Qg (w:=w) (σ:=σ) hY hk hu he hl hu' c1 c2 c3 (hb lo) (hb hi))).to ?_
     simp [execOp,ho,hx]
    ·cases h
   ·cases h
  ·cases h
 ·
  rename_i s x f ho
  split at h
  ·rename_i k cs hk hx
   split at h
   ·rename_i fs hu
    split at h
    ·rename_i fd hf
     obtain⟨q,hq,h⟩:=Cf h
     simp only [Prod.mk.injEq] at h
     obtain⟨rfl,rfl⟩:=h
     have oq:=aC ht x
     rw [hx] at oq
     simp only [af] at oq
     obtain⟨vs,hv,hr⟩:=oq
     have hu':=hY.und hk
     rw [hu] at hu'
     refine(ay.ans r (Oc hY hq hr)).to ?_
     simp [execOp,ho,Instr.field,run_underlying hu',hf,hv,asAgg]
    ·cases h
   ·cases h
  ·cases h
 ·
  rename_i ty x ix ho
  split at h
  ·rename_i k T n q i hk hx hi
   split at h
   ·rename_i e hu
    split at h
    ·rename_i k' he
     split at h
     ·rename_i hT
      simp only [Option.some.injEq,Prod.mk.injEq] at h
      obtain⟨rfl,rfl⟩:=h
      have hT:=Nat.eq_of_beq_eq_true hT
      obtain⟨c1,hc1⟩:=aS.aA.1 hc
      obtain⟨c2,_⟩:=aS.aA.1 hc1
      simp only at c1 c2
      have oq:=aC ht x
      have hir:=aC ht ix
      rw [hx] at oq
      rw [hi] at hir
      simp only [af] at hir
      obtain⟨A,s,C,hv,hs,hC,El,hA⟩:=jm oq
      have hs:=hs n rfl
      have hu':=hY.und hk
      rw [hu] at hu'
      have hsz:=hY.size he
      cases A with
      | none=>have:=El rfl;omega
      | some p=>
       obtain⟨b,j,m,rfl,hb,hm⟩:=hA p rfl
       refine dO.val r (x:= .pointer (some ⟨b,j*T.length+i.toNat*k'.n,none⟩)) ?_ ?_
       ·have c3:i < (s:Int):=by omega
        simp [execOp,ho,hv,hir,j6 hu' hsz c1 c3]
       ·simp only [af]
        exact⟨b,_,T,m,j+i.toNat,0,[],rfl,hb,by rw [hT,Nat.add_mul,Nat.add_zero],by omega,by omega,by simp⟩
     ·cases h
    ·cases h
   ·cases h
  ·rename_i k a0 m C0 q i hk hx hi
   split at h
   ·rename_i e hu
    split at h
    ·rename_i k' he
     split at h
     ·rename_i hh
      simp only [Option.some.injEq,Prod.mk.injEq] at h
      obtain⟨rfl,rfl⟩:=h
      have hh:=Nat.eq_of_beq_eq_true hh
      obtain⟨c1,hc1⟩:=aS.aA.1 hc
      obtain⟨c2,hc2⟩:=aS.aA.1 hc1
      obtain⟨c4,_⟩:=aS.aA.1 hc2
      simp only at c1 c2 c4
      obtain⟨b0,o0,rfl⟩:=flat_get c4
      have oq:=aC ht x
      have hir:=aC ht ix
      rw [hx] at oq
      rw [hi] at hir
      simp only [af] at hir oq
      have hu':=hY.und hk
      rw [hu] at hu'
      have hsz:=hY.size he
      refine dO.val r (x:= .pointer (some ⟨b0,o0+i.toNat*k'.n,none⟩)) ?_ ?_
      ·have c3:i < (m:Int):=by omega
       simp [execOp,ho,oq,hir,j6 hu' hsz c1 c3]
      ·rw [hh,Nat.mul_one]
       simp [af,bR,AM.addr_add]
     ·cases h
    ·cases h
   ·cases h
  ·rename_i k T m q i hk hx hi
   split at h
   ·rename_i e hu
    split at h
    ·rename_i k' he
     split at h
     ·rename_i hh
      simp only [Option.some.injEq,Prod.mk.injEq] at h
      obtain⟨rfl,rfl⟩:=h
      simp only [Bool.and_eq_true] at hh
      obtain⟨⟨g1,g2⟩,g3⟩:=hh
      have g1:=Nat.eq_of_beq_eq_true g1
      have g2:0 < k'.n:=by simpa [Nat.blt_eq] using g2
      have g3:i < m:=by simpa [Nat.blt_eq] using g3
      have oq:=aC ht x
      have hir:=aC ht ix
      rw [hx] at oq
      rw [hi] at hir
      simp only [af] at hir oq
      obtain⟨b,C,hv,hC,hb⟩:=oq
      have hu':=hY.und hk
      rw [hu] at hu'
      have hsz:=hY.size he
      have hlt:i*k'.n < T.length:=by
       rw [<- g1];exact Nat.mul_lt_mul_of_pos_right g3 g2
      refine dO.val r (x:= .pointer (some ⟨b,0+i*k'.n,none⟩)) ?_ ?_
      ·have:=j6 (P:=P) (w:=w) (b:=b) (o:=0) (n:=m) (C:=C) (i:=Int.ofNat i) (k:=q) hu' hsz (by simp) (by simpa using g3)
       simp only [Int.ofNat_eq_natCast,Int.toNat_natCast] at this hir
       simp [execOp,ho,hv,hir,this]
      ·simp only [af]
       exact⟨b,_,T,1,0,i*k'.n,[],rfl,hb,by rw [Nat.zero_mul],by omega,by rw [List.length_drop];omega,by simp⟩
     ·cases h
    ·cases h
   ·cases h
  ·cases h
 ·
  rename_i x i ho
  split at h
  ·rename_i vs hx
   obtain⟨q,hq,h⟩:=Cf h
   simp only [Prod.mk.injEq] at h
   obtain⟨rfl,rfl⟩:=h
   have oq:=aC ht x
   rw [hx] at oq
   simp only [af] at oq
   obtain⟨us,hv,hr⟩:=oq
   obtain⟨u,hu,hr⟩:=hr.get hq
   have hu':us[i]?=some u:=by simpa using hu
   exact dO.val r (x:=u) (by simp [execOp,ho,Instr.extract,hv,hu']) hr
  ·cases h
 ·
  rename_i bi args argTypes ho
  obtain⟨cs,hres⟩:∃cs,(execOp a.eval o).run P w=(builtin bi argTypes o.type cs (args.map a.eval)).run P w:=⟨_,by simp only [execOp,ho,resolve];simp only [Sem.run_bind,Sem.run_pure,Result.andThen_ok,invoke];rfl⟩
  refine dO.to ?_ hres
  have hargs:=oV ht args.toList
  have harr:args.map a.eval=(args.toList.map a.eval).toArray:=Array.toList_inj.1 (by simp)
  rw [harr]
  generalize args.toList.map a.eval=vs at hargs
  have two:∀{x y:TV},ai σ [x,y] vs->∃X Z,vs=[X,Z]/\af σ x X/\af σ y Z:=fun h=>by
   simp only [ai] at h
   obtain⟨X,q,e1,h1,Z,q',e2,h2,e3⟩:=h
   exact⟨X,Z,by rw [e1,e2,e3],h1,h2⟩
  have Ve:∀(T:List TV),af σ (.s T (some 0)) (.slice none 0 0):=fun T=>by
   simp only [af]
   exact⟨none,0,0,rfl,(fun z hz=>by injection hz),⟨Nat.le_refl _,by omega⟩,(fun _=>rfl),(fun a ha=>by cases ha)⟩
  split at h
  ·
   rename_i s x ty tx ea et
   rw [ea] at hargs
   obtain⟨S,X,rfl,hs,hx⟩:=two hargs
   have et':argTypes=#[ty,tx]:=Array.toList_inj.1 et
   subst et'
   split at h
   ·rename_i k k2 hk hk2
    split at h
    ·rename_i e te hu hu2
     split at h
     ·rename_i k' he
      split at h
      ·rename_i hh
       simp only [Bool.and_eq_true] at hh
       obtain⟨⟨⟨g0,g1⟩,g2⟩,g3⟩:=hh
       have g0:0 < k'.n:=by simpa [Nat.blt_eq] using g0
       have g1:=Nat.le_of_ble_eq_true g1
       have g2:=Nat.eq_of_beq_eq_true g2
       have hx2:=hY.und hk2
       rw [hu2] at hx2
       have go:∀(T:List TV) (n m:Int) (c2:Cs),af σ (.s T (some n)) S->af σ (.s T (some m)) X->TV.kL k'.z T=some c2->aS.ok c2->k'.n=T.length->n+m<=1073741824->dO P w0 σ g w (builtin .append #[ty,tx] o.type cs [S,X].toArray) (.s T (some (n+m))):=by
        intro T n m c2 hS hX hsub hok hT hbig
        obtain⟨A,q,C,rfl,hq,hC,El,hA⟩:=jm hS
        obtain⟨B,q',C',rfl,hq',hC',hB0,hB⟩:=jm hX
        have hq:=hq n rfl
        have hq':=hq' m rfl
        have e1:n+m=((q+q':Nat):Int):=by omega
        rw [e1]
        refine(Og r hY hk hu he hx2 hT g0 g1 g2 g3 ⟨c2,hsub,hok⟩ (ty:=o.type) hC El hA hC' hB0 hB (by omega)).to ?_
        simp [builtin]
       split at h
       ·rename_i T n U m
        split at h
        ·rename_i c1 c2 h1 h2
         split at h
         ·rename_i hT
          simp only [Option.some.injEq,Prod.mk.injEq] at h
          obtain⟨rfl,rfl⟩:=h
          obtain⟨q1,q2⟩:=aS.aA.1 hc
          obtain⟨q3,q4⟩:=aS.aU.1 q2
          have:=dx _ _ _ h1 q3
          subst this
          exact go _ _ _ _ hs hx h2 q4 (Nat.eq_of_beq_eq_true hT) q1
         ·cases h
        ·cases h
       ·rename_i U m
        split at h
        ·rename_i c2 h2
         split at h
         ·rename_i hT
          simp only [Option.some.injEq,Prod.mk.injEq] at h
          obtain⟨rfl,rfl⟩:=h
          obtain⟨q1,q2⟩:=aS.aA.1 hc
          simp only [af] at hs
          subst hs
          have:=go _ 0 m _ (Ve U) hx h2 q2 (Nat.eq_of_beq_eq_true hT) (by simpa using q1)
          rwa [Int.zero_add] at this
         ·cases h
        ·cases h
       ·rename_i T n
        split at h
        ·rename_i c2 h2
         split at h
         ·rename_i hT
          simp only [Option.some.injEq,Prod.mk.injEq] at h
          obtain⟨rfl,rfl⟩:=h
          obtain⟨q1,q2⟩:=aS.aA.1 hc
          simp only [af] at hx
          subst hx
          have:=go _ n 0 _ hs (Ve T) h2 q2 (Nat.eq_of_beq_eq_true hT) (by simpa using q1)
          rwa [Int.add_zero] at this
         ·cases h
        ·cases h
       ·cases h
      ·cases h
     ·cases h
    ·cases h
   ·cases h
  ·
   rename_i T n U m ty tx ea et
   rw [ea] at hargs
   obtain⟨D,S,rfl,hd,hs⟩:=two hargs
   have et':argTypes=#[ty,tx]:=Array.toList_inj.1 et
   subst et'
   split at h
   ·rename_i k hk
    split at h
    ·rename_i e hu
     split at h
     ·rename_i k' c1 he h1
      split at h
      ·rename_i hT
       simp only [Option.some.injEq,Prod.mk.injEq] at h
       obtain⟨rfl,rfl⟩:=h
       have:=dx _ _ _ h1 hc
       subst this
       exact(Oh r hY hk hu he (tx:=tx) (ty:=o.type) (Nat.eq_of_beq_eq_true hT) hd hs).to (by simp [builtin])
      ·cases h
     ·cases h
    ·cases h
   ·cases h
  ·
   rename_i x ty ea et
   rw [ea] at hargs
   simp only [ai] at hargs
   obtain⟨X,q,e1,hx,e2⟩:=hargs
   subst e2;subst e1
   have et':argTypes=#[ty]:=Array.toList_inj.1 et
   subst et'
   split at h
   ·rename_i k hk
    split at h
    ·rename_i e hu
     have hu':=hY.und hk
     rw [hu] at hu'
     split at h
     ·rename_i T n
      simp only [Option.some.injEq,Prod.mk.injEq] at h
      obtain⟨rfl,rfl⟩:=h
      obtain⟨A,q,C,rfl,hq,_⟩:=jm hx
      have hq:=hq n rfl
      refine dO.val r (x:= .int .i64 (q:Int)) ?_ (by rw [hq];exact mg _ _)
      simp [builtin,Builtin.len_,run_underlying hu',goInt]
     ·rename_i T m
      simp only [Option.some.injEq,Prod.mk.injEq] at h
      obtain⟨rfl,rfl⟩:=h
      simp only [af] at hx
      obtain⟨b,C,rfl,_⟩:=hx
      refine dO.val r (x:= .int .i64 (m:Int)) ?_ (mg _ _)
      simp [builtin,Builtin.len_,run_underlying hu',goInt]
     ·rename_i a0 m C0
      simp only [Option.some.injEq,Prod.mk.injEq] at h
      obtain⟨rfl,rfl⟩:=h
      simp only [af] at hx
      subst hx
      refine dO.val r (x:= .int .i64 (m:Int)) ?_ (mg _ _)
      simp [builtin,Builtin.len_,run_underlying hu',goInt]
     ·cases h
    ·cases h
   ·cases h
  ·rename_i k q1 k2 q2 ea
   rw [ea] at hargs
   obtain⟨X,Z,rfl,hx,hy⟩:=two hargs
   simp only [af] at hx hy
   subst hx hy
   simp only [Option.some.injEq,Prod.mk.injEq] at h
   obtain⟨rfl,rfl⟩:=h
   exact(ay.ans r (ay.of (Kj (mx:=true) (k:=k) (k':=k2) (a:=q1) (b:=q2)) (by simp only [if_true];exact mg _ _))).to (by simp [builtin,Builtin.max_,mm])
  ·rename_i k q1 k2 q2 ea
   rw [ea] at hargs
   obtain⟨X,Z,rfl,hx,hy⟩:=two hargs
   simp only [af] at hx hy
   subst hx hy
   simp only [Option.some.injEq,Prod.mk.injEq] at h
   obtain⟨rfl,rfl⟩:=h
   exact(ay.ans r (ay.of (Kj (mx:=false) (k:=k) (k':=k2) (a:=q1) (b:=q2)) (by simp only [Bool.false_eq_true,if_false];exact mg _ _))).to (by simp [builtin,Builtin.min_,mm])
  ·rename_i ea
   rw [ea] at hargs
   obtain⟨X,Z,rfl,hx,hy⟩:=two hargs
   obtain⟨x1,rfl,h1⟩:=eU hx
   obtain⟨x2,rfl,h2⟩:=eU hy
   simp only [Option.some.injEq,Prod.mk.injEq] at h
   obtain⟨rfl,rfl⟩:=h
   have e0:aZ:=⟨fun _=>0,fun _=>0⟩
   have ra:AM.af e0 0 (.f .top) (.float .f64 x1):=fw h1
   have rb:AM.af e0 0 (.f .top) (.float .f64 x2):=fw h2
   exact(ay.ans r (qL (vE (mx:=true) (v:= .f .top) (w:=w) rfl ra rb) fun y hy=>by simp only [AM.af] at hy;simp only [af];exact hy)).to (by simp [builtin,Builtin.max_,mm])
  ·rename_i ea
   rw [ea] at hargs
   obtain⟨X,Z,rfl,hx,hy⟩:=two hargs
   obtain⟨x1,rfl,h1⟩:=eU hx
   obtain⟨x2,rfl,h2⟩:=eU hy
   simp only [Option.some.injEq,Prod.mk.injEq] at h
   obtain⟨rfl,rfl⟩:=h
   have e0:aZ:=⟨fun _=>0,fun _=>0⟩
   have ra:AM.af e0 0 (.f .top) (.float .f64 x1):=fw h1
   have rb:AM.af e0 0 (.f .top) (.float .f64 x2):=fw h2
   exact(ay.ans r (qL (vE (mx:=false) (v:= .f .top) (w:=w) rfl ra rb) fun y hy=>by simp only [AM.af] at hy;simp only [af];exact hy)).to (by simp [builtin,Builtin.min_,mm])
  ·cases h
 ·cases h
theorem lT (v:TV):v.zL.plain=true:=by cases v<;>rfl
theorem iL.addr {o:Oper} {t:List TV} {K:List TV->G->Prop} {d off q:Nat} {cs:List TV} (hd:∀c,o.op≠ .defer c) (hdst:o.dst=some q) (ht:t[d]?=some (.ow cs)) (h:∀(σ:TE) (a:Act) (w:World),Rel P w0 σ g t a.tmps w->(execOp a.eval o).run P w= .ok (.value (.pointer (some ⟨bS a.tmps d,off,none⟩))) w)
  (hk:K (t.set q (.aac d off)) g):iL P w0 ro o t g K:=by
 refine .of fun σ a w r next Q hn=>?_
 refine⟨fun _ _=>trivial,?_⟩
 rw [Oper.semAt_eq _ _ _ hd,h σ a w r]
 refine hn _ g σ _ _ hk ?_
 rw [hdst]
 have hlen:∀{e:Nat} {u:TV},(t.set q (.aac d off))[e]?=some u->e < a.tmps.size:=fun {e u} he=>by
  have:=(List.getElem?_eq_some_iff.1 he).1
  have hl:=r.tl.length
  simp at this hl
  omega
 have hself:∀x,q < a.tmps.size->((a.put (some q) x).tmps)[q]?=some x:=fun x hq=>by
  show(a.tmps.setIfInBounds q x)[q]?=_
  simp [Array.getElem?_setIfInBounds,hq]
 refine⟨⟨?_,⟨fun e cs' he=>?_,fun e f c1 c2 he hf hr=>?_,fun e f o' c he hf=>?_⟩,r.tw⟩, .refl _,Nat.le_refl _,fun k hk h1 h2 h3=>⟨rfl,h1,h2,fun⟨e,c,he,hr⟩=>?_⟩⟩
 ·have:=r.tl.set q (a:= .aac d off) (v:= .pointer (some ⟨bS a.tmps d,off,none⟩)) (by simp only [af])
  simpa [Act.put] using this
 ·rcases aK he with⟨_,x⟩ | ⟨x,he⟩
  ·cases x
  ·rw [nz x];exact r.own.ow e cs' he
 ·rcases aK he with⟨_,x⟩ | ⟨x,he⟩
  ·cases x
  ·rcases aK hf with⟨_,y⟩ | ⟨y,hf⟩
   ·cases y
   ·rw [gU x,gU y] at hr
    exact r.own.inj e f c1 c2 he hf hr
 ·have hl:=hlen he
  rcases aK hf with⟨_,y⟩ | ⟨y,hf⟩
  ·cases y
  ·rw [gU y]
   rcases aK he with⟨rfl,x⟩ | ⟨x,he⟩
   ·injection x with x1 x2
    subst x1;subst x2
    rw [hself _ hl]
   ·rw [nz x]
    exact r.own.at_ e f o' c he hf
 ·rcases aK he with⟨_,x⟩ | ⟨x,he⟩
  ·cases x
  ·rw [gU x] at hr
   exact h3 ⟨e,c,he,hr⟩
theorem o7 {a:Act} {d:Nat} {x:Value} (h:a.tmps[d]?=some x):a.eval (.tmp d)=x:=by
 show a.tmps.getD d undef=x
 rw [Array.getD_eq_getD_getElem?,h];rfl
theorem Oj {Y:iM} (hY:ky P w0 Y) {t:List TV} {ty:TypeId} {k:TK} (hk:Y ty=some k) {x:Operand} {v:TV} (h:J9 t k x=some v) {a:Act} (r:Rel P w0 σ g t a.tmps w):∃A u,a.eval x= .pointer (some A)/\(loadVar ty A).run P w= .ok u w/\af σ v u:=by
 unfold J9 at h
 split at h
 ·rename_i d
  split at h
  ·rename_i cs hs
   obtain⟨e1,hc⟩:=Cells.own r.own (dL hs (by simp))
   have hc:=hc 0
   rw [List.drop_zero] at hc
   obtain⟨u,hu,hv⟩:=ma hY hk hc h
   exact⟨_,u,o7 e1,hu,hv⟩
  ·rename_i e o hs
   split at h
   ·rename_i cs hs2
    have h1:=dL hs (by simp)
    have h2:=dL hs2 (by simp)
    obtain⟨_,hc⟩:=Cells.own r.own h2
    obtain⟨u,hu,hv⟩:=ma hY hk (hc o) h
    exact⟨_,u,o7 (r.own.at_ d e o cs h1 h2),hu,hv⟩
   ·cases h
  ·rename_i T hs
   have hx:=aN r.tl (.tmp d)
   rw [show ev t (.tmp d)= .p T from hs] at hx
   obtain⟨b,o,e1,hc⟩:=Cells.ptr r.tw hx
   obtain⟨u,hu,hv⟩:=ma hY hk hc h
   exact⟨_,u,e1,hu,hv⟩
  ·cases h
 ·cases h
theorem S9 {cs vs':List TV} {C:List Value} {vs:List Value} {o n:Nat} (h:ai σ cs C) (hv:ai σ vs' vs) (hn:vs.length=n):ai σ (cs.take o++vs'++cs.drop (o+n)) (C.take o++vs++C.drop (o+vs.length)):=by
 rw [hn]
 exact((h.take o).append hv).append (h.drop (o+n))
theorem tq {Y:iM} (hY:ky P w0 Y) {t:List TV} {ty:TypeId} {k:TK} (hk:Y ty=some k) {v:TV} (hat:TV.atoms v.cells=true) (hn:v.cells.length=k.n) {x y:Operand} {o:Oper} (ho:o.op= .store ty x y) (hvy:dw t y=v) {d off:Nat} {cs:List TV} (hle:off+k.n<=cs.length)
  (hp:∀(σ:TE) (a:Act) (w:World),Rel P w0 σ g t a.tmps w->a.eval x= .pointer (some ⟨bS a.tmps d,off,none⟩)) (σ:TE) (a:Act) (w:World) (C:Array Value) (e:TypeId) (r:Rel P w0 σ g t a.tmps w) (hC:w.heap[bS a.tmps d]?=some (.cells C e (0,0))) (hc:ai σ cs C.toList):
  ∃C' w',(execOp a.eval o).run P w= .ok .skip w'/\w'.heap.size=w.heap.size/\(∀k,k≠bS a.tmps d->w'.heap[k]?=w.heap[k]?)/\w'.heap[bS a.tmps d]?=some (.cells C' e (0,0))/\w'.os=w.os/\w'.tape=w.tape/\w'.output=w.output/\ai σ (cs.take off++v.cells++cs.drop (off+k.n)) C'.toList:=by
 have hy:=aC r.tl y
 rw [hvy] at hy
 have hrel:=mh hy hat
 have hlen:=hrel.length
 have hl2:=hc.length
 have hsz:(a.eval y).cells.size=k.n:=by rw [<- hn,hlen];simp
 have hst:=run_storeCells_at P (bS a.tmps d) off e (a.eval y).cells.toList 0 C w hC (by simp at hl2 hsz ⊢;omega) (fB hrel hat)
 simp only [Nat.add_zero] at hst
 refine⟨(C.toList.take off++(a.eval y).cells.toList++C.toList.drop (off+(a.eval y).cells.toList.length)).toArray,_,?_,setRow_size _ _ _,fun k hk=>setRow_other _ _ _ _ hk,setRow_heap _ _ _ _ _ _ hC,rfl,rfl,rfl,?_⟩
 ·simp [execOp,ho,hp σ a w r,Instr.storeAt,Instr.sureAddr,storeVar,aT (hY.size hk),hsz,hst]
 ·exact S9 hc hrel (by simpa using hsz)
theorem Dn:∀(a b:List TV) (c:Cs),vH a b=some c->aS.ok c->a.length<=b.length/\∀vs,ai σ a vs->∀(i:Nat) (x:TV),i < a.length->b[i]?=some x->∃v,vs[i]?=some v/\af σ x v
 | [],b,c,h,hc=>⟨by simp,fun vs hv i x hi=>by simp at hi⟩
 | x::a,[],c,h,hc=>by simp only [vH] at h;cases h
 | x::a,y::b,c,h,hc=>by
  simp only [vH] at h
  split at h
  ·rename_i c1 d1 h1 h2
   injection h with h;subst h
   obtain⟨k1,k2⟩:=aS.aU.1 hc
   obtain⟨q1,q2⟩:=Dn a b d1 h2 k2
   refine⟨by simp;omega,fun vs hv i z hi hz=>?_⟩
   simp only [ai] at hv
   obtain⟨u,r,rfl,e1,e2⟩:=hv
   cases i with
   | zero=>simp at hz;subst hz;exact⟨u,rfl,lS x y c1 h1 k1 u e1⟩
   | succ i=>exact q2 r e2 i z (by simpa using hi) (by simpa using hz)
  ·cases h
theorem Qk (r:TW P w0 σ g w) {T ae:List TV} {c:Cs} (hs:vH ae T=some c) (hc:aS.ok c) (hne:0 < ae.length) (hat:TV.atoms ae=true) {vs:List Value} (hv:ai σ ae vs) {X:Value} (hx:af σ (.p T) X):
  ∃A w',X= .pointer (some A)/\(storeCells A vs).run P w= .ok () w'/\aJ P w0 σ g w σ g w':=by
 simp only [af] at hx
 obtain⟨b,o,B,n,j,q,u,rfl,hb,rfl,hj,hq,hd⟩:=hx
 obtain⟨O,hO,D,el,rfl,hD,hDone,Y9⟩:=r.blk _ _ hb
 obtain⟨p1,p2⟩:=Dn (σ:=σ) ae T c hs hc
 have hone:=fB hv hat
 have hlen:=hv.length
 have hlt:j*B.length+q+vs.length<=D.size:=by
  rw [hD]
  have:(j+1)*B.length<=n*B.length:=Nat.mul_le_mul_right _ hj
  rw [Nat.add_mul] at this
  omega
 have hst:=run_storeCells_at P b (j*B.length+q) el vs 0 D w hO (by omega) hone
 simp only [Nat.add_zero] at hst
 have hsz:(D.toList.take (j*B.length+q)++vs++D.toList.drop (j*B.length+q+vs.length)).toArray.size=D.size:=oJ hlt
 refine⟨_,_,rfl,hst,aJ.set r b (.row B n) hb (.cells (D.toList.take (j*B.length+q)++vs++D.toList.drop (j*B.length+q+vs.length)).toArray el (0,0)) ⟨_,el,rfl,by rw [hsz];exact hD,fun v hv=>?_,fun i a hi ha=>?_⟩ (setRow_size _ _ _) (fun k hk=>setRow_other _ _ _ _ hk) (setRow_heap _ _ _ _ _ _ hO) rfl rfl rfl⟩
 ·simp only [List.mem_append] at hv
  rcases hv with(hv | hv) | hv
  ·exact hDone v (List.mem_of_mem_take hv)
  ·exact hone v hv
  ·exact hDone v (List.mem_of_mem_drop hv)
 ·rw [hsz] at hi
  have ht:(D.toList.take (j*B.length+q)).length=j*B.length+q:=by simp;omega
  rw [List.getElem?_toArray,List.append_assoc]
  by_cases h1:i < j*B.length+q
  ·rw [List.getElem?_append_left (by rw [ht];exact h1),List.getElem?_take_of_lt h1]
   obtain⟨v,hv,hr⟩:=Y9 i a hi ha
   exact⟨v,by simpa using hv,hr⟩
  ·rw [List.getElem?_append_right (by rw [ht];omega),ht]
   by_cases h2:i - (j*B.length+q) < vs.length
   ·rw [List.getElem?_append_left h2]
    refine p2 vs hv _ a (by omega) ?_
    have hm:i % B.length=q+(i - (j*B.length+q)):=by
     rw [show i=(q+(i - (j*B.length+q)))+j*B.length by omega,Nat.add_mul_mod_self_right,Nat.mod_eq_of_lt (by omega)]
     omega
    rw [hm, <- List.getElem?_drop,hd,List.getElem?_append_left (by omega)] at ha
    exact ha
   ·rw [List.getElem?_append_right (by omega),List.getElem?_drop]
    obtain⟨v,hv,hr⟩:=Y9 i a hi ha
    refine⟨v,?_,hr⟩
    rw [show j*B.length+q+vs.length+(i - (j*B.length+q) - vs.length)=i by omega]
    simpa using hv
theorem LB {Y:iM} (hY:ky P w0 Y) {s:TypeId} {f off:Nat} (h:F8 Y s f=some off) (b o:Nat):(Instr.fieldAt s (.pointer (some ⟨b,o,none⟩)) f).run P w= .ok (.pointer (some ⟨b,o+off,none⟩)) w:=by
 unfold F8 at h
 split at h
 ·rename_i k hk
  split at h
  ·rename_i fs hu
   split at h
   ·rename_i fd hf
    split at h
    ·rename_i k' hk'
     split at h
     ·rename_i hb
      injection h with h;subst h
      have hn:0 < k'.n:=by simpa [Nat.blt_eq] using hb
      obtain⟨m,hm⟩:∃m,k'.n=m+1:=⟨k'.n - 1,by omega⟩
      have hs:bu P fd.type=some (m+1):=by rw [<- hm];exact hY.size hk'
      have hu':=hY.und hk
      rw [hu] at hu'
      exact Da hu' hf hs b o
     ·cases h
    ·cases h
   ·cases h
  ·cases h
 ·cases h
theorem iL.Za {o:Oper} {t:List TV} {K:List TV->G->Prop} {d off:Nat} {cs:List TV} (hd:∀c,o.op≠ .defer c) (ht:t[d]?=some (.ow cs)) (h:∀(σ:TE) (a:Act) (w:World),Rel P w0 σ g t a.tmps w->(execOp a.eval o).run P w= .ok (.value (.pointer (some ⟨bS a.tmps d,off,none⟩))) w)
  (hk:K (eG t o.dst (.aac d off)) g):iL P w0 ro o t g K:=by
 cases hdst:o.dst with
 | none=>
  rw [hdst] at hk
  refine .of fun σ a w r next Q hn=>?_
  refine⟨fun _ _=>trivial,?_⟩
  rw [Oper.semAt_eq _ _ _ hd,h σ a w r]
  refine hn _ g σ _ _ hk ?_
  rw [hdst]
  exact Step.refl r
 | some q=>
  rw [hdst] at hk
  exact iL.addr hd hdst ht h hk
theorem Dp {t:List TV} {g:G} {K:List TV->G->Prop} {o:Oper} {x:Operand} {off:Nat} {v:TV} (hd:∀c,o.op≠ .defer c) (h:zO t off x=some v) (hrun:∀(σ:TE) (a:Act) (w:World) (b q:Nat),Rel P w0 σ g t a.tmps w->a.eval x= .pointer (some ⟨b,q,none⟩)->(execOp a.eval o).run P w= .ok (.value (.pointer (some ⟨b,q+off,none⟩))) w)
  (hk:K (eG t o.dst v) g):iL P w0 ro o t g K:=by
 unfold zO at h
 split at h
 ·rename_i d
  split at h
  ·rename_i cs hs
   injection h with h;subst h
   have h1:=dL hs (by simp)
   exact iL.Za hd h1 (fun σ a w r=>by
    have:=hrun σ a w _ _ r (o7 (Cells.own r.own h1).1)
    rwa [Nat.zero_add] at this) hk
  ·rename_i e p hs
   split at h
   ·rename_i cs hs2
    injection h with h;subst h
    have h1:=dL hs (by simp)
    have h2:=dL hs2 (by simp)
    exact iL.Za hd h2 (fun σ a w r=>hrun σ a w _ _ r (o7 (r.own.at_ d e p cs h1 h2))) hk
   ·cases h
  ·rename_i T hs
   split at h
   ·rename_i hb
    injection h with h;subst h
    have hlt:off < T.length:=by simpa [Nat.blt_eq] using hb
    refine iL.plain hd rfl (fun σ a w r=>?_) hk
    have hx:=aN r.tl (.tmp d)
    rw [show ev t (.tmp d)= .p T from hs] at hx
    simp only [af] at hx
    obtain⟨b,o',B,n,j,q,u,e1,hb,rfl,hj,hq,hdr⟩:=hx
    refine dO.val r.tw (hrun σ a w _ _ r e1) ?_
    simp only [af]
    refine⟨b,_,B,n,j,q+off,u,rfl,hb,by omega,hj,by rw [List.length_drop];omega,?_⟩
    rw [<- List.drop_drop,hdr,List.drop_append_of_le_length (by omega)]
   ·cases h
  ·cases h
 ·cases h
theorem Kk {Y:iM} (hY:ky P w0 Y) {an:Nat->Option (List TV)} {t:List TV} {o:Oper} {c:Cs} {u:rf} {K:List TV->G->Prop} (h:top Y an t o=some (c,u)) (hc:aS.ok c) (hk:K (u.app t o.dst) g):iL P w0 ro o t g K:=by
 have Vf:∀(_:∀c,o.op≠ .defer c),(I8 Y an t o).map (fun r=>(r.1,rf.val r.2.zL))=some (c,u)->iL P w0 ro o t g K:=fun hd h=>by
  obtain⟨q,hq,h⟩:=Cf h
  simp only [Prod.mk.injEq] at h
  obtain⟨h1,h2⟩:=h
  subst h2
  obtain⟨q1,q2⟩:=q
  simp only at h1 hk
  subst h1
  refine iL.plain hd (lT q2) (fun σ a w r=>?_) hk
  obtain⟨x,w',σ',e1,e2,e3⟩:=Qj (σ:=σ) (w:=w) hY r.tw r.tl hq hc
  refine⟨x,w',σ',e1,e2,?_⟩
  rcases e3 with⟨y,rfl,hy⟩ | ⟨rfl,rfl⟩
  ·exact .inl ⟨y,rfl,lJ hy⟩
  ·exact .inr ⟨rfl,rfl⟩
 unfold top at h
 split at h
 ·
  rename_i e ho
  split at h
  ·rename_i k d hk' hdst
   split at h
   ·rename_i hh
    simp only [Bool.and_eq_true] at hh
    simp only [Option.some.injEq,Prod.mk.injEq] at h
    obtain⟨rfl,rfl⟩:=h
    rw [hdst] at hk
    refine iL.new (d:=d) (fun c=>by rw [ho];simp) hdst (fun σ a w r=>?_) hk
    obtain⟨i,z,hi,_,_,hz,su⟩:=hY.info hk'
    have hzv:=lH (P:=P) hi hz w
    exact⟨z.cells,e,by simp [execOp,ho,Instr.alloc,hzv,newVar,newRow],su σ⟩
   ·cases h
  ·cases h
 ·
  rename_i e x ho
  split at h
  ·rename_i d hdst
   split at h
   ·rename_i hh
    simp only [Bool.and_eq_true] at hh
    split at h
    ·have gen:∀(T:List TV),u= .val (.pb T)->(∀(σ:TE) (vs:List Value),ai σ (dw t x).cells vs->ai σ T vs)->iL P w0 ro o t g K:=fun T hu hT=>by
      subst hu
      refine iL.plain (fun c=>by rw [ho];simp) rfl (fun σ a w r=>?_) hk
      have hv:=mh (aC r.tl x) hh.1
      have ho1:=fB hv hh.1
      have hc:=hT σ _ hv
      have hl:=hc.length
      obtain⟨f1,f2⟩:=r.tw.free
      have hx:Ext σ (σ.put w.heap.size (.row T 1)):=Ext.put f1
      refine⟨.value (.pointer (some ⟨w.heap.size,0,none⟩)),_,_,by simp [execOp,ho,Instr.box,newVar,newRow],aJ.push r.tw (.row T 1) (.cells (a.eval x).cells e (0,0)) ⟨_,e,rfl,by simp at hl;omega,ho1,fun i y hi hy=>?_⟩, .inl ⟨_,rfl,?_⟩⟩
      ·rw [Nat.mod_eq_of_lt (by simp at hl;omega)] at hy
       obtain⟨v,hv,hr⟩:=hc.get hy
       exact⟨v,by simpa using hv,hr.ext hx⟩
      ·simp only [af]
       exact⟨w.heap.size,rfl,by unfold TE.put;rw [if_pos rfl]⟩
     split at h
     ·rename_i T _
      obtain⟨c1,h1,h2⟩:=Cf h
      simp only [Prod.mk.injEq] at h2
      obtain⟨rfl,rfl⟩:=h2
      exact gen T rfl fun σ vs hv=>dD _ _ _ h1 hc vs hv
     ·simp only [Option.some.injEq,Prod.mk.injEq] at h
      obtain⟨rfl,rfl⟩:=h
      exact gen _ rfl fun σ vs hv=>hv
    simp only [Option.some.injEq,Prod.mk.injEq] at h
    obtain⟨rfl,rfl⟩:=h
    rw [hdst] at hk
    refine iL.new (d:=d) (fun c=>by rw [ho];simp) hdst (fun σ a w r=>?_) hk
    exact⟨(a.eval x).cells,e,by simp [execOp,ho,Instr.box,newVar,newRow],mh (aC r.tl x) hh.1⟩
   ·cases h
  ·cases h
 ·
  rename_i ty x ho
  split at h
  ·rename_i k hk'
   split at h
   ·rename_i a0 hx
    unfold UT at h
    split at h
    ·rename_i hd
     simp only [Option.some.injEq,Prod.mk.injEq] at h
     obtain⟨rfl,rfl⟩:=h
     obtain⟨c4,hc⟩:=aS.aA.1 hc
     obtain⟨c1,hc⟩:=aS.aA.1 hc
     obtain⟨c2,hc⟩:=aS.aA.1 hc
     obtain⟨c5,hc⟩:=aS.aA.1 hc
     obtain⟨c3,_⟩:=aS.aA.1 hc
     simp only at c1 c2 c3 c4 c5
     obtain⟨b0,o0,rfl⟩:=flat_get c4
     simp only [jJ,aW] at c1 c2 c3 c5
     refine iL.plain (fun c=>by rw [ho];simp) rfl (fun σ a w r=>?_) hk
     have oq:=aC r.tl x
     rw [hx] at oq
     simp only [af] at oq
     rcases hY.Yb with h0 | ⟨hlt,C,e,fz,hC,hrom⟩
     ·omega
     ·have hb:b0=Y.NN:=by omega
      subst hb
      have hCw:w.heap[Y.NN]?=some (.cells C e fz):=by rw [r.tw.below.block _ hlt];exact hC
      have hcell:Cells σ w Y.NN o0 [.i .u64 (some (Y.Yb o0))]:=⟨C,e,fz,hCw,fun i v hv=>by
       cases i with
       | zero=>
        simp at hv;subst hv
        exact⟨_,(hrom o0 (by omega) (by omega)).1,by simp only [af]⟩
       | succ i=>simp at hv⟩
      obtain⟨u,e2,e3⟩:=ma hY hk' hcell (v:= .i .u64 (some (Y.Yb o0))) (by unfold wR Em;rw [hd])
      exact dO.val r.tw (x:=u) (by simp [execOp,ho,Instr.loadAt,Instr.sureAddr,oq,e2]) e3
    ·cases h
   ·obtain⟨q,hq,h⟩:=Cf h
    simp only [Prod.mk.injEq] at h
    obtain⟨rfl,rfl⟩:=h
    refine iL.plain (fun c=>by rw [ho];simp) (lT q) (fun σ a w r=>?_) hk
    obtain⟨A,u,e1,e2,e3⟩:=Oj hY hk' hq r
    exact dO.val r.tw (x:=u) (by simp [execOp,ho,Instr.loadAt,Instr.sureAddr,e1,e2]) (lJ e3)
  ·cases h
 ·
  rename_i ty x y ho
  split at h
  ·rename_i k hk' hdst
   have hd:∀c,o.op≠ .defer c:=fun c=>by rw [ho];simp
   unfold Ca at h
   split at h
   ·rename_i d
    split at h
    ·rename_i hh
     simp only [Bool.and_eq_true] at hh
     obtain⟨⟨g1,g2⟩,g3⟩:=hh
     have g2:=Nat.eq_of_beq_eq_true g2
     have g3:0 < k.n:=by simpa [Nat.blt_eq] using g3
     split at h
     ·rename_i cs hs
      split at h
      ·rename_i hle
       simp only [Option.some.injEq,Prod.mk.injEq] at h
       obtain⟨rfl,rfl⟩:=h
       have h1:=dL hs (by simp)
       refine iL.stow hd hdst h1 (fun σ a w C e r hC hcs=>?_) hk
       have:=tq (P:=P) (w0:=w0) (g:=g) hY hk' g1 g2 ho rfl (d:=d) (off:=0) (cs:=cs) (by have:=Nat.le_of_ble_eq_true hle;omega) (fun σ a w r=>o7 (Cells.own r.own h1).1) σ a w C e r hC hcs
       simpa using this
      ·cases h
     ·rename_i e p hs
      split at h
      ·rename_i cs hs2
       split at h
       ·rename_i hle
        simp only [Option.some.injEq,Prod.mk.injEq] at h
        obtain⟨rfl,rfl⟩:=h
        have h1:=dL hs (by simp)
        have h2:=dL hs2 (by simp)
        refine iL.stow hd hdst h2 (fun σ a w C e' r hC hcs=>?_) hk
        exact tq (P:=P) (w0:=w0) (g:=g) hY hk' g1 g2 ho rfl (d:=e) (off:=p) (cs:=cs) (Nat.le_of_ble_eq_true hle) (fun σ a w r=>o7 (r.own.at_ d e p cs h1 h2)) σ a w C e' r hC hcs
       ·cases h
      ·cases h
     ·rename_i T hs
      obtain⟨q,hq,h⟩:=Cf h
      simp only [Prod.mk.injEq] at h
      obtain⟨rfl,rfl⟩:=h
      refine iL.plain hd rfl (fun σ a w r=>?_) hk
      have hx:=aN r.tl (.tmp d)
      rw [show ev t (.tmp d)= .p T from hs] at hx
      have hy:=aC r.tl y
      have hrel:=mh hy g1
      obtain⟨A,w',e1,e2,e3⟩:=Qk r.tw hq hc (by omega) g1 hrel hx
      have hsz:(a.eval y).cells.size=k.n:=by have:=hrel.length;rw [<- g2,this];simp
      refine⟨.skip,w',σ,?_,e3, .inr ⟨rfl,rfl⟩⟩
      simp [execOp,ho,e1,Instr.storeAt,Instr.sureAddr,storeVar,aT (hY.size hk'),hsz,e2]
     ·cases h
    ·cases h
   ·cases h
  ·cases h
 ·
  rename_i s x f ho
  split at h
  ·rename_i off hoff
   obtain⟨q,hq,h⟩:=Cf h
   simp only [Prod.mk.injEq] at h
   obtain⟨rfl,rfl⟩:=h
   exact Dp (fun c=>by rw [ho];simp) hq (fun σ a w b p r e1=>by simp [execOp,ho,e1,LB hY hoff]) hk
  ·cases h
 ·
  rename_i ty x ix ho
  split at h
  ·rename_i n e _ _ _ _ _ hk'
   split at h
   ·rename_i k' q i he hi
    split at h
    ·rename_i hh
     simp only [Bool.and_eq_true] at hh
     obtain⟨v,hv,h⟩:=Cf h
     simp only [Prod.mk.injEq] at h
     obtain⟨rfl,rfl⟩:=h
     have g1:i < n:=by simpa [Nat.blt_eq] using hh.1
     have hu:=hY.und hk'
     refine Dp (fun c=>by rw [ho];simp) hv (fun σ a w b p r e1=>?_) hk
     have hir:=aC r.tl ix
     rw [hi] at hir
     simp only [af] at hir
     have:=wO (P:=P) (w:=w) (b:=b) (o:=p) (k:=q) (i:=Int.ofNat i) hu (hY.size he) (by simp) (by simpa using g1)
     simp only [Int.ofNat_eq_natCast,Int.toNat_natCast] at this hir
     simp [execOp,ho,e1,hir,this]
    ·cases h
   ·cases h
  ·exact Vf (fun c=>by rw [ho];simp) h
 ·rename_i h1 h2 h3 h4 h5 h6
  refine Vf (fun c hcc=>?_) h
  unfold I8 at h
  rw [hcc] at h
  cases h
end
end Go.TM
