/-
  A part of the proof that TopSteps answers true for every input that can be read as data.
-/
import Derived.Test.YtgledbghdhjgkaaGreatDoorZA
import Derived.Laws.Externs
import Derived.Laws.CopyRow
import Derived.Deep.AppendSrc
set_option linter.unusedSimpArgs false
set_option linter.unusedVariables false
namespace Go.AM
open Go Go.RowKit
section
variable {P:Program} {w0:World} {σ:aZ} {g:Mem} {N:Nat} {w:World}
theorem kr {d:Nat} {c:AC} (r:eF σ g N w) (h:g d=some (.cells c false)):∃C e,w.heap[σ.at_ d]?=some (.cells C e (0,0))/\C.size=σ.sz d/\c.size<=C.size/\∀i a,c.get? i=some a->∃v,C[i]?=some v/\af σ N a v:=by
 obtain⟨_,O,hO,C,e,fz,rfl,h1,h2,h3,h4⟩:=r.ob d _ h
 obtain rfl:=h3 rfl
 exact⟨C,e,hO,h1,by omega,h4⟩
theorem jN {b:Nat} {C:Array Value} {e:TypeId} (h:w.heap[b]?=some (.cells C e (0,0))) (o:Nat) (s:Option Nat):w.frozen? ⟨b,o,s⟩=false:=by
 simp [World.frozen?,h]
theorem jg {b:Nat} {C:Array Value} {e:TypeId} {fz:Nat×Nat} (h:w.heap[b]?=some (.cells C e fz)):w.shape? b=some (e,C.size):=by
 simp [World.shape?,h]
theorem zq {t:TypeId} {x y:AV} (r:eF σ g N w) (h:sD P t x y g=true) {X Y:Value} (hx:af σ N x X) (hy:af σ N y Y):(Op.equal t X Y).run P w= .ok false w:=by
 suffices H:∀D,(Op.equalIn (D+1) t X Y).run P w= .ok false w from H 9999
 intro D
 unfold sD at h
 split at h
 ·rename_i e d o d' o' hu
  simp only [Bool.and_eq_true,bne_iff_ne,ne_eq] at h
  obtain⟨⟨h1,h2⟩,h3⟩:=h
  simp only [af] at hx hy
  obtain⟨_,rfl⟩:=hx
  obtain⟨_,rfl⟩:=hy
  cases hs:bu P e with
  | none=>rw [hs] at h1;cases h1
  | some m=>
   rw [hs] at h1
   cases m with
   | zero=>cases h1
   | succ m=>
    rw [KY hu hs]
    split at h3
    ·rename_i c c' hd hd'
     obtain⟨C,e1,hC,-,-,-⟩:=kr r hd
     obtain⟨C',e2,hC',-,-,-⟩:=kr r hd'
     have hne:¬σ.at_ d=σ.at_ d':=fun e=>h2 (r.inj d d' _ _ hd hd' rfl e)
     have f1:=fun o=>jN hC o none
     have f2:=fun o=>jN hC' o none
     have s1:=jg hC
     have s2:=jg hC'
     simp [sameAddr,hne,f1,f2,noView,viewAt,s1,s2,mayBeOne,stringish]
    ·cases h3
 ·cases h
theorem jh {op:BinOp} {t:TypeId} {x y:Operand} {X Y:Value} (h:(∀cs,X= .agg cs->P.eqGuardType P.depth t=false)) (hn:X≠ .nilIface):(eqGuard op t x y X Y).run P w= .ok () w:=by
 by_cases hop:op= .eql\/op= .neq
 ·rcases hop with rfl | rfl
  ·cases X with
   | nilIface=>exact absurd rfl hn
   | agg cs=>
    have:=h cs rfl
    cases Y<;>simp [eqGuard,this]
   | _=>rfl
  ·cases X with
   | nilIface=>exact absurd rfl hn
   | agg cs=>
    have:=h cs rfl
    cases Y<;>simp [eqGuard,this]
   | _=>rfl
 ·unfold eqGuard
  rw [if_pos (by cases op<;>simp at hop ⊢)]
  rfl
theorem Sq {a:AV} {v:Value} (h:af σ N a v) (hj:a≠ .bg):v≠ .nilIface:=by
 intro e
 subst e
 cases a with
 | b x=>cases x<;>simp [af] at h
 | i k x=>cases x<;>simp [af] at h
 | f x=>cases x<;>simp [af] at h
 | p x=>rcases x with _ | ⟨d,o⟩<;>simp [af] at h
 | s x n c e=>rcases x with _ | ⟨d,o⟩<;>simp [af] at h
 | m x=>cases x<;>simp [af] at h
 | fn g fs cs=>simp [af] at h
 | bD=>simp [af] at h
 | agg cs=>simp [af] at h
 | aF cs=>simp [af] at h
 | bg=>exact hj rfl
theorem qC {k:IntKind} {x:Option Int} {v:Value} (h:af σ N (.i k x) v):∃n,v= .int k n:=by
 cases x with
 | none=>simp only [af] at h;obtain⟨n,rfl,_⟩:=h;exact⟨n,rfl⟩
 | some n=>simp only [af] at h;exact⟨n,h⟩
theorem iT {x:FD} {v:Value} (h:af σ N (.f x) v):∃n,v= .float .f64 n:=by
 cases x with
 | top=>simp only [af] at h;obtain⟨n,rfl,_⟩:=h;exact⟨n,rfl⟩
 | zr=>simp only [af] at h;rcases h with rfl | rfl<;>exact⟨_,rfl⟩
 | k w=>simp only [af] at h;exact⟨_,h⟩
theorem zt {x:FD} {n:Nat} (h:af σ N (.f x) (.float .f64 n)) (hk:∀w,x≠ .k w):n < 18446744073709551616:=by
 cases x with
 | top=>simp only [af] at h;obtain⟨m,e,hm⟩:=h;injection e with _ e;omega
 | zr=>simp only [af] at h;rcases h with h | h<;>injection h with _ h<;>omega
 | k w=>exact absurd rfl (hk w)
theorem zu {x:Option Bool} {v:Value} (h:af σ N (.b x) v):∃b,v= .bool b/\(x=none\/x=some b):=by
 cases x with
 | none=>simp only [af] at h;obtain⟨b,rfl⟩:=h;exact⟨b,rfl, .inl rfl⟩
 | some b=>simp only [af] at h;exact⟨b,h, .inr rfl⟩
theorem ZC {x:Option Bool} {b:Bool} (h:x=none\/x=some b):af σ N (.b x) (.bool b):=by
 rcases h with rfl | rfl
 ·exact yh _
 ·exact Fz _
theorem PI {md:Md} {op:BinOp} {t:TypeId} {a b:AV} {c:aS} {v:AV} (h:Ps P md op t a b g=some (c,v)) {X Y:Value} (hx:af σ N a X) (x y:Operand):(eqGuard op t x y X Y).run P w= .ok () w:=by
 by_cases hop:op= .eql\/op= .neq
 ·apply jh
  ·intro cs e
   subst e
   cases a with
   | agg ae=>
    cases hg:P.eqGuardType P.depth t with
    | false=>rfl
    | true=>rcases hop with rfl | rfl<;>simp [Ps,sF,hg] at h
   | bg=>rcases hop with rfl | rfl<;>simp [Ps,sF,sD,Wj] at h
   | b x=>cases x<;>simp [af] at hx
   | i k x=>cases x<;>simp [af] at hx
   | f x=>cases x<;>simp [af] at hx
   | p x=>rcases x with _ | ⟨d,o⟩<;>simp [af] at hx
   | s x n c e=>rcases x with _ | ⟨d,o⟩<;>simp [af] at hx
   | m x=>cases x<;>simp [af] at hx
   | fn g fs cs=>simp [af] at hx
   | bD=>simp [af] at hx
   | aF cs=>simp [af] at hx
  ·intro e
   subst e
   have:a= .bg:=by
    apply Classical.byContradiction
    intro hj
    exact Sq hx hj rfl
   subst this
   rcases hop with rfl | rfl<;>simp [Ps,sF,sD,Wj] at h
 ·unfold eqGuard
  rw [if_pos (by cases op<;>simp at hop ⊢)]
  rfl
theorem dV {t:TypeId} {X Y:Value} {z:Bool} (h:(Op.equal t X Y).run P w= .ok z w) (hi:∀k n,X≠ .int k n) (hf:∀k n,X≠ .float k n) (hb:∀k a b,X≠ .complex k a b) (hs:∀s,X≠ .string s):
  (binOp .eql t X Y).run P w= .ok (.bool z) w/\(binOp .neq t X Y).run P w= .ok (.bool (!z)) w:=by
 cases X<;>first
  | exact absurd rfl (hi _ _)
  | exact absurd rfl (hf _ _)
  | exact absurd rfl (hb _ _ _)
  | exact absurd rfl (hs _)
  | (constructor<;>simp [binOp,h])
def AV.PK:AV->Bool
 | .b _ | .agg _ | .p _ | .s .. =>true
 | _=>false
theorem MX {t:TypeId} {x y:AV} {b:Option Bool} (h:Wj P t x y=some b):x.PK=true:=by
 unfold Wj at h
 split at h<;>first | rfl | cases h
theorem CZ {t:TypeId} {x y:AV} (h:sD P t x y g=true):x.PK=true:=by
 unfold sD at h
 split at h<;>first | rfl | cases h
theorem lG {x:AV} {X:Value} (h:x.PK=true) (hx:af σ N x X):(∀k n,X≠ .int k n)/\(∀k n,X≠ .float k n)/\(∀k a b,X≠ .complex k a b)/\(∀s,X≠ .string s):=by
 cases x with
 | b x=>obtain⟨b,rfl,_⟩:=zu hx;simp
 | agg cs=>simp only [af] at hx;obtain⟨vs,rfl,_⟩:=hx;simp
 | p x=>rcases x with _ | ⟨d,o⟩<;>simp only [af] at hx<;>first | (subst hx;simp) | (obtain⟨_,rfl⟩:=hx;simp)
 | s x n c e=>rcases x with _ | ⟨d,o⟩<;>simp only [af] at hx<;>first | (obtain⟨_,rfl⟩:=hx;simp) | (obtain⟨_,_,_,rfl,_⟩:=hx;simp)
 | _=>cases h
theorem Ro {x:Option Bool} {b:Bool} (h:x=none\/x=some b):af σ N (.b (Zt x)) (.bool !b):=by
 rcases h with rfl | rfl
 ·exact yh _
 ·exact Fz _
theorem PL {md:Md} {op:BinOp} {t:TypeId} {a b:AV} {c:aS} {v:AV} (r:eF σ g N w) (h:Ps P md op t a b g=some (c,v)) (hc:c.ok) {X Y:Value} (hx:af σ N a X) (hy:af σ N b Y):
  Gives P σ N w (binOp op t X Y) v:=by
 unfold Ps at h
 have sh:∀{o:Option AV} (_:o.map (fun v=>(([]:aS),v))=some (c,v)),o=some v:=by
  intro o ho
  cases o with
  | none=>cases ho
  | some q=>simp at ho;rw [ho.2]
 have eqc:∀{z:Bool} (_:(Op.equal t X Y).run P w= .ok z w),(∀k n,X≠ .int k n)->(∀k n,X≠ .float k n)->(∀k a b,X≠ .complex k a b)->(∀s,X≠ .string s)->True:=fun _ _ _ _ _=>trivial
 split at h
 ·obtain⟨m,rfl⟩:=qC hx
  obtain⟨n,rfl⟩:=qC hy
  exact zm (sh h) hx hy t (.inl rfl)
 ·obtain⟨m,rfl⟩:=qC hx
  obtain⟨n,rfl⟩:=qC hy
  exact zm (sh h) hx hy t (.inr rfl)
 ·rename_i k p k' q n1 n2
  obtain⟨m,rfl⟩:=qC hx
  obtain⟨n,rfl⟩:=qC hy
  split at h
  ·rename_i hk
   subst hk
   exact FB h hc hx hy t (fun e=>n1 e) (fun e=>n2 e)
  ·cases h
 iterate 6
  ·obtain⟨m,rfl⟩:=iT hx
   obtain⟨n,rfl⟩:=iT hy
   exact CX (sh h) hx hy t
 ·obtain⟨m,rfl⟩:=iT hx
  obtain⟨n,rfl⟩:=iT hy
  exact zo (sh h) hx hy t
 ·split at h
  ·cases h
  ·split at h
   ·rename_i hp
    injection h with h
    simp only [Prod.mk.injEq] at h
    obtain⟨rfl,rfl⟩:=h
    obtain⟨k1,k2,k3,k4⟩:=lG (CZ hp) hx
    exact Gives.of (dV (zq r hp hx hy) k1 k2 k3 k4).1 (Fz _)
   ·cases e:Wj P t a b with
    | none=>rw [e] at h;cases h
    | some z=>
     rw [e] at h
     simp at h
     obtain⟨rfl,rfl⟩:=h
     obtain⟨k1,k2,k3,k4⟩:=lG (MX e) hx
     obtain⟨q,hq,hz⟩:=JH (w:=w) e hx hy
     exact Gives.of (dV hq k1 k2 k3 k4).1 (ZC hz)
 ·split at h
  ·cases h
  ·split at h
   ·rename_i hp
    injection h with h
    simp only [Prod.mk.injEq] at h
    obtain⟨rfl,rfl⟩:=h
    obtain⟨k1,k2,k3,k4⟩:=lG (CZ hp) hx
    exact Gives.of (dV (zq r hp hx hy) k1 k2 k3 k4).2 (Fz _)
   ·cases e:Wj P t a b with
    | none=>rw [e] at h;cases h
    | some z=>
     rw [e] at h
     simp at h
     obtain⟨rfl,rfl⟩:=h
     obtain⟨k1,k2,k3,k4⟩:=lG (MX e) hx
     obtain⟨q,hq,hz⟩:=JH (w:=w) e hx hy
     exact Gives.of (dV hq k1 k2 k3 k4).2 (Ro hz)
 ·cases h
theorem zw (n:Int):FloatKind.f64.nearest n < 18446744073709551616:=by
 show Ieee.double.write (.number (n < 0) n.natAbs 0) < _
 exact FE _
theorem Sr {md:Md} {op:UnOp} {a:AV} {c:aS} {v:AV} (h:aun md op a=some (c,v)) (hc:c.ok) {X:Value} (hx:af σ N a X):Gives P σ N w (Op.unary op X) v:=by
 unfold aun at h
 split at h
 ·rename_i k x
  obtain⟨n,rfl⟩:=qC hx
  have:=FB (P:=P) (w:=w) h hc (oI k 0) hx 0 (by decide) (by decide)
  have e:binOp .sub 0 (.int k 0) (.int k n)=Op.unary .neg (.int k n):=by simp [binOp,Op.unary]
  rw [e] at this
  exact this
 ·rename_i x
  obtain⟨n,rfl⟩:=iT hx
  injection h with h
  simp only [Prod.mk.injEq] at h
  obtain⟨rfl,rfl⟩:=h
  have e:2 ^ (FloatKind.f64.format.exponentBits+FloatKind.f64.format.fractionBits)=9223372036854775808:=by decide
  refine Gives.of (x:= .float .f64 (n ^^^ 9223372036854775808)) (by simp [Op.unary,Op.negFloat,e]) ?_
  cases x with
  | top=>
   have hn:=zt hx (by simp)
   refine fw ?_
   have:=Nat.xor_lt_two_pow (n:=64) (x:=n) (y:=9223372036854775808) (by simpa using hn) (by decide)
   simpa using this
  | zr=>
   simp only [negF,af] at hx ⊢
   rcases hx with hx | hx<;>injection hx with _ hx<;>subst hx
   ·exact .inr rfl
   ·exact .inl rfl
  | k q=>
   simp only [af] at hx
   injection hx with _ hx
   subst hx
   exact MV _
 ·rename_i x
  injection h with h
  simp only [Prod.mk.injEq] at h
  obtain⟨rfl,rfl⟩:=h
  obtain⟨b,rfl,hb⟩:=zu hx
  exact Gives.of (x:= .bool !b) (by simp [Op.unary]) (Ro hb)
 ·cases h
theorem zx {src dst:TypeId} {ds:TypeDesc} {k:IntKind} (hs:P.underlying src=some ds) (hd:P.underlying dst=some (.int k)) (q:IntKind) (n:Int):(convert src dst (.int q n)).run P w= .ok (.int k (k.wrap n)) w:=by
 simp [convert,run_underlying hs,run_underlying hd,Conv.intToInt]
theorem MZ {md:Md} {src dst:TypeId} {a:AV} {c:aS} {v:AV} (h:TY P md src dst a=some (c,v)) (hc:c.ok) {X:Value} (hx:af σ N a X):Gives P σ N w (convert src dst X) v:=by
 unfold TY at h
 split at h
 ·rename_i ds k q n hs hd
  obtain rfl:X= .int q n:=by simpa only [af] using hx
  have hr:(convert src dst (.int q n)).run P w= .ok (.int k (k.wrap n)) w:=zx hs hd q n
  split at h
  ·injection h with h
   simp only [Prod.mk.injEq] at h
   obtain⟨rfl,rfl⟩:=h
   exact Gives.of hr (oI _ _)
  ·injection h with h
   simp only [Prod.mk.injEq] at h
   obtain⟨rfl,rfl⟩:=h
   rw [jA (hc (k.min,n) (by simp)) (hc (n,k.max) (by simp))] at hr
   exact Gives.of hr (oI _ _)
 ·rename_i ds k q hs hd
  obtain⟨n,rfl⟩:=qC hx
  injection h with h
  simp only [Prod.mk.injEq] at h
  obtain⟨rfl,rfl⟩:=h
  exact Gives.of (zx hs hd q n) (qA (ko _ _))
 ·rename_i ds q n hs hd
  obtain rfl:X= .int q n:=by simpa only [af] using hx
  injection h with h
  simp only [Prod.mk.injEq] at h
  obtain⟨rfl,rfl⟩:=h
  exact Gives.of (x:= .float .f64 (FloatKind.f64.nearest n)) (by cases ds<;>simp [convert,run_underlying hs,run_underlying hd,Conv.intToFloat]) (MV _)
 ·rename_i ds q hs hd
  obtain⟨n,rfl⟩:=qC hx
  injection h with h
  simp only [Prod.mk.injEq] at h
  obtain⟨rfl,rfl⟩:=h
  exact Gives.of (x:= .float .f64 (FloatKind.f64.nearest n)) (by cases ds<;>simp [convert,run_underlying hs,run_underlying hd,Conv.intToFloat]) (fw (zw _))
 ·rename_i ds q hs hd
  obtain⟨n,rfl⟩:=iT hx
  injection h with h
  simp only [Prod.mk.injEq] at h
  obtain⟨rfl,rfl⟩:=h
  exact Gives.of (x:= .float .f64 n) (by cases ds<;>simp [convert,run_underlying hs,run_underlying hd,Conv.floatToFloat]) hx
 ·cases h
def sub64Entry:Array Value->Sem Value:=fun args=>do
 let (x,y,b) <- Extern.MathBitsCarry.three "Sub64" args
 pure (Extern.MathBitsCarry.pair ((x+Extern.MathBitsCarry.m64 - y - b) % Extern.MathBitsCarry.m64) (if x < y+b then 1 else 0))
theorem JI (x y c:Nat) (hc:c<=1) (w:World):(add64Entry #[.int .u64 x, .int .u64 y, .int .u64 c]).run P w= .ok (.tuple #[.int .u64 (((x+y+c) % 18446744073709551616:Nat):Int), .int .u64 (((x+y+c) / 18446744073709551616:Nat):Int)]) w:=by
 have:c=0\/c=1:=by omega
 rcases this with rfl | rfl<;>rfl
theorem JJ (x y c:Nat) (hc:c<=1) (w:World):(sub64Entry #[.int .u64 x, .int .u64 y, .int .u64 c]).run P w= .ok (.tuple #[.int .u64 (((x+18446744073709551616 - y - c) % 18446744073709551616:Nat):Int), .int .u64 ((if x < y+c then 1 else 0:Nat):Int)]) w:=by
 have:c=0\/c=1:=by omega
 rcases this with rfl | rfl<;>rfl
def XK.WE:XK->Array Value->Sem Value
 | .bits=>Extern.MathFloatBits.float64bits
 | .ic=>Extern.MathFloatBits.float64frombits
 | .sqrt=>Extern.MathSqrt.sqrt
 | .zi=>add64Entry
 | .zk=>sub64Entry
def C8 (P:Program) (f:FuncId) (x:XK):Prop:=
 ∃fn,P.funcs[f]?=some fn/\(fn.name== "runtime.NumGoroutine")=false/\fn.body.isNone=true/\Extern.findNext fn=none/\Extern.find fn=some x.WE
theorem KZ {f:FuncId} {x:XK} (h:C8 P f x) {args:Array Value} {v:Value} {w':World} (hr:(x.WE args).run P w= .ok v w'):(callFunc f args).run P w= .ok (.value v) w':=by
 obtain⟨fn,hf,hn,hb,hx,he⟩:=h
 have hn':¬fn.name= "runtime.NumGoroutine" :=by simpa using hn
 have hb':=Option.isNone_iff_eq_none.1 hb
 unfold callFunc
 simp [hf,hn',hb',hx,he,hr]
theorem zy {a:AV} {vs:Array Value} (h:ai σ N [a] vs.toList):∃v,vs=#[v]/\af σ N a v:=by
 simp only [ai] at h
 obtain⟨v,r,e,h1,h2⟩:=h
 subst h2
 exact⟨v,Array.toList_inj.1 (by simpa using e),h1⟩
theorem FJ {a b c:AV} {vs:Array Value} (h:ai σ N [a,b,c] vs.toList):∃x y z,vs=#[x,y,z]/\af σ N a x/\af σ N b y/\af σ N c z:=by
 simp only [ai] at h
 obtain⟨x,_,e,h1,y,_,rfl,h2,z,_,rfl,h3,rfl⟩:=h
 exact⟨x,y,z,Array.toList_inj.1 (by simpa using e),h1,h2,h3⟩
theorem l5 {x:XK} {args:List AV} {v:AV} (h:WA x args=some v) {vs:Array Value} (ha:ai σ N args vs.toList):Gives P σ N w (x.WE vs) v:=by
 unfold WA at h
 split at h
 ·injection h with h;subst h
  obtain⟨u,rfl,hu⟩:=zy ha
  simp only [af] at hu;subst hu
  exact Gives.of (x:= .int .u64 _) rfl (oI _ _)
 ·rename_i a hk
  injection h with h;subst h
  obtain⟨u,rfl,hu⟩:=zy ha
  obtain⟨n,rfl⟩:=iT hu
  have hl:=zt hu (fun w e=>hk w e)
  exact Gives.of (x:= .int .u64 n) rfl (qA ⟨by simp [IntKind.min,IntKind.signed],by simp [IntKind.max,IntKind.signed,IntKind.bits];omega⟩)
 ·rename_i n
  injection h with h;subst h
  obtain⟨u,rfl,hu⟩:=zy ha
  simp only [af] at hu;subst hu
  exact Gives.of (x:= .float .f64 n.toNat) rfl (MV _)
 ·injection h with h;subst h
  obtain⟨u,rfl,hu⟩:=zy ha
  simp only [af] at hu;obtain⟨n,rfl,hn⟩:=hu
  refine Gives.of (x:= .float .f64 n.toNat) rfl (fw ?_)
  have h1:=hn.1
  have h2:=hn.2
  simp [IntKind.min,IntKind.max,IntKind.signed,IntKind.bits] at h1 h2
  omega
 ·rename_i x
  obtain⟨u,rfl,hu⟩:=zy ha
  obtain⟨n,rfl⟩:=iT hu
  have hd:FloatKind.f64.format=Ieee.double:=rfl
  have key:∃y w',((XK.WE .sqrt) #[.float .f64 n]).run P w= .ok (.float .f64 y) w'/\(w'=w\/w'=w.drew)/\((Ieee.double.sqrt n=some y/\y < 18446744073709551616)\/(Ieee.double.sqrt n=none/\y < 18446744073709551616)):=by
   have hs:(XK.WE .sqrt) #[.float .f64 n]=(match Ieee.double.sqrt n with
    | some r=>pure (.float .f64 r)
    | none=>do pure (.float .f64 (<- choose (.nanBits .f64 n n)))):=rfl
   rw [hs]
   cases e:Ieee.double.sqrt n with
   | some r=>exact⟨r,w,rfl, .inl rfl, .inl ⟨rfl,map_write_lt e⟩⟩
   | none=>exact⟨_,w.drew,by simp [run_choose_drew,Question.forced], .inr rfl, .inr ⟨rfl,FC n n (w.tape w.drawn (.nanBits .f64 n n))⟩⟩
  obtain⟨y,w',hr,hw,hy⟩:=key
  have hlt:y < 18446744073709551616:=by rcases hy with⟨_,h⟩ | ⟨_,h⟩<;>exact h
  have hv:af σ N v (.float .f64 y):=by
   split at h
   ·rename_i xs hxs
    injection h with h;subst h
    have hm:Ieee.double.sqrt n∈xs.map fun a=>Ieee.double.sqrt a:=List.mem_map.2 ⟨n,jM hu hxs,rfl⟩
    rcases hy with⟨e,hl⟩ | ⟨e,hl⟩
    ·rw [e] at hm;exact ym hm hl
    ·rw [e] at hm;rw [yt hm];exact fw hl
   ·injection h with h;subst h
    exact fw hlt
  rcases hw with rfl | rfl
  ·exact⟨_,hv, .inl hr⟩
  ·exact⟨_,hv, .inr hr⟩
 ·rename_i a b c
  split at h
  ·rename_i hc
   injection h with h;subst h
   obtain⟨x,y,z,rfl,hx,hy,hz⟩:=FJ ha
   simp only [af] at hx hy hz;subst hx;subst hy;subst hz
   exact Gives.of (JI a b c (Nat.le_of_ble_eq_true hc) w) (by simp only [af,ai];exact⟨_,rfl,_,_,rfl,rfl,_,_,rfl,rfl,rfl⟩)
  ·cases h
 ·rename_i a b c
  split at h
  ·rename_i hc
   injection h with h;subst h
   obtain⟨x,y,z,rfl,hx,hy,hz⟩:=FJ ha
   simp only [af] at hx hy hz;subst hx;subst hy;subst hz
   refine Gives.of (JJ a b c (Nat.le_of_ble_eq_true hc) w) ?_
   have:(Nat.blt a (b+c)=true)↔a < b+c:=by rw [Nat.blt_eq]
   simp only [af,ai,this]
   exact⟨_,rfl,_,_,rfl,rfl,_,_,rfl,rfl,rfl⟩
  ·cases h
 ·cases h
end
end Go.AM
namespace Go.AM
open Go Go.RowKit
theorem aS.aU {a b:aS}:aS.ok (a++b)↔aS.ok a/\aS.ok b:=by
 constructor
 ·intro h
  exact⟨fun p hp=>h p (List.mem_append.2 (.inl hp)),fun p hp=>h p (List.mem_append.2 (.inr hp))⟩
 ·rintro⟨h1,h2⟩ p hp
  rcases List.mem_append.1 hp with h | h
  ·exact h1 p h
  ·exact h2 p h
theorem aS.aA {p:Int×Int} {b:aS}:aS.ok (p::b)↔p.1<=p.2/\aS.ok b:=by
 constructor
 ·intro h
  exact⟨h p (List.mem_cons_self ..),fun q hq=>h q (List.mem_cons_of_mem _ hq)⟩
 ·rintro⟨h1,h2⟩ q hq
  cases hq with
  | head=>exact h1
  | tail _ hm=>exact h2 q hm
theorem aS.ZE:aS.ok []:=fun _ h=>by cases h
section
variable {P:Program} {w0:World} {σ:aZ} {g:Mem} {N:Nat} {w:World}
theorem M0 {a b:AV} {c:aS} (h:a.le b=some c) (hc:c.ok) {v:Value} (hv:af σ N a v):af σ N b v:=by
 unfold AV.le at h
 split at h
 ·rename_i x
  injection h with h;subst h
  simp only [af] at hv;subst hv
  have:=hc (x,18446744073709551615) (by simp)
  simp only at this
  exact fw (by omega)
 ·simp only [af] at hv ⊢
  rcases hv with rfl | rfl
  ·exact⟨_,rfl,by decide⟩
  ·exact⟨_,rfl,by decide⟩
 ·exact hv
 ·exact hv
 ·rename_i x
  split at h
  ·rename_i hx;subst hx
   simp only [af] at hv ⊢;exact .inl hv
  ·cases h
 ·obtain⟨b,rfl,_⟩:=zu hv
  exact yh _
 ·split at h
  ·rename_i hk;subst hk;exact hv
  ·cases h
 ·rename_i k n k'
  split at h
  ·rename_i hk;subst hk
   injection h with h;subst h
   simp only [af] at hv;subst hv
   exact qA ⟨hc (k.min,n) (by simp),hc (n,k.max) (by simp)⟩
  ·cases h
 ·cases h
theorem sG {v:AV}:∀{ae:List AV} {c:aS},wJ v ae=some c->c.ok->∀(i:Nat) (b:AV),ae[i]?=some b->∀(σ:aZ) (N:Nat) (u:Value),af σ N b u->af σ N v u
 | [],c,h,hc,i,b,hb,σ,N,u,hu=>by simp at hb
 | a::ae,c,h,hc,i,b,hb,σ,N,u,hu=>by
  simp only [wJ] at h
  split at h
  ·rename_i c1 c2 h1 h2
   injection h with h;subst h
   obtain⟨k1,k2⟩:=aS.aU.1 hc
   cases i with
   | zero=>simp at hb;subst hb;exact M0 h1 k1 hu
   | succ i=>exact sG h2 k2 i b (by simpa using hb) σ N u hu
  ·cases h
theorem M3 {c:AC} {o:Nat} {k:aS} {a:AV} (h:c.read o=some (k,a)) (hk:k.ok):c.get? o=some a:=by
 cases c with
 | l cs=>
  simp only [AC.read] at h
  cases e:cs[o]? with
  | none=>simp [e] at h
  | some b=>simp [e] at h;simp [AC.get?,e,h.2]
 | u v n=>
  simp only [AC.read,Option.some.injEq,Prod.mk.injEq] at h
  obtain⟨rfl,rfl⟩:=h
  have:=hk ((o:Int)+1,(n:Int)) (by simp)
  simp only at this
  simp only [AC.get?]
  rw [if_pos (by omega)]
theorem JK {c:AC}:∀{n o:Nat} {k:aS} {ae:List AV},c.reads o n=some (k,ae)->k.ok->ae.length=n/\∀j,j < n->c.get? (o+j)=ae[j]?
 | 0,o,k,ae,h,hk=>by
  simp only [AC.reads,Option.some.injEq,Prod.mk.injEq] at h
  obtain⟨rfl,rfl⟩:=h
  exact⟨rfl,fun j hj=>by omega⟩
 | n+1,o,k,ae,h,hk=>by
  simp only [AC.reads] at h
  split at h
  ·rename_i c1 a c2 r h1 h2
   simp only [Option.some.injEq,Prod.mk.injEq] at h
   obtain⟨rfl,rfl⟩:=h
   obtain⟨k1,k2⟩:=aS.aU.1 hk
   obtain⟨e1,e2⟩:=JK h2 k2
   refine⟨by simp [e1],fun j hj=>?_⟩
   cases j with
   | zero=>simp [M3 h1 k1]
   | succ j=>
    have:=e2 j (by omega)
    rw [show o+(j+1)=o+1+j by omega,this]
    simp
  ·cases h
theorem addr_add (b o j:Nat):(⟨b,o,none⟩:Addr).add j=⟨b,o+j,none⟩:=by
 unfold Addr.add
 split
 ·rename_i h;subst h;rfl
 ·rfl
theorem cell_of {b:Nat} {C:Array Value} {e:TypeId} {fz:Nat×Nat} (h:w.heap[b]?=some (.cells C e fz)) (o:Nat):w.cell? ⟨b,o,none⟩=C[o]?:=by
 simp [World.cell?,h]
theorem M4 {d:Nat} {c:AC} {ro:Bool} (r:eF σ g N w) (h:g d=some (.cells c ro)):d < N/\∃C e fz,w.heap[σ.at_ d]?=some (.cells C e fz)/\C.size=σ.sz d/\c.size<=C.size/\∀i a,c.get? i=some a->∃v,C[i]?=some v/\af σ N a v:=by
 obtain⟨hd,O,hO,C,e,fz,rfl,h1,h2,h3,h4⟩:=r.ob d _ h
 exact⟨hd,C,e,fz,hO,h1,by omega,h4⟩
theorem FK {C:Array Value} {c:AC} (h:∀i a,c.get? i=some a->∃v,C[i]?=some v/\af σ N a v):∀{n o:Nat} {ae:List AV},ae.length=n->(∀j,j < n->c.get? (o+j)=ae[j]?)->∃vs:List Value,vs.length=n/\ai σ N ae vs/\∀j v,vs[j]?=some v->C[o+j]?=some v
 | 0,o,ae,hl,_=>by
  obtain rfl:=List.length_eq_zero_iff.1 hl
  exact⟨[],rfl,by simp [ai],fun j v hv=>by simp at hv⟩
 | n+1,o,[],hl,_=>by simp at hl
 | n+1,o,a::ae,hl,hj=>by
  have h0:=hj 0 (by omega)
  simp only [Nat.add_zero,List.getElem?_cons_zero] at h0
  obtain⟨v,hv,hr⟩:=h o a h0
  obtain⟨vs,e1,e2,e3⟩:=FK h (n:=n) (o:=o+1) (ae:=ae) (by simpa using hl) (fun j hj'=>by
   have:=hj (j+1) (by omega)
   rw [show o+1+j=o+(j+1) by omega,this];simp)
  refine⟨v::vs,by simp [e1],⟨v,vs,rfl,hr,e2⟩,fun j u hu=>?_⟩
  cases j with
  | zero=>simp at hu;subst hu;exact hv
  | succ j=>
   have:=e3 j u (by simpa using hu)
   rw [show o+(j+1)=o+1+j by omega];exact this
theorem M5 {t:TypeId} {x:AV} {c:aS} {v:AV} (r:eF σ g N w) (h:CV P t x g=some (c,v)) (hc:c.ok) {X:Value} (hx:af σ N x X):∃A u,X= .pointer (some A)/\af σ N v u/\(loadVar t A).run P w= .ok u w:=by
 unfold CV at h
 split at h
 ·rename_i d o
  simp only [af] at hx
  obtain⟨_,rfl⟩:=hx
  split at h
  ·rename_i ac ro hd
   obtain⟨_,C,e,fz,hC,h1,h2,h3⟩:=M4 r hd
   split at h
   ·rename_i ha
    obtain⟨u,hu,hr⟩:=h3 o v (M3 h hc)
    refine⟨_,u,rfl,hr,?_⟩
    simp [loadVar,jf ha,run_load,cell_of hC,hu]
   ·rename_i ha
    split at h
    ·rename_i n hs
     cases e1:ac.reads o n with
     | none=>rw [e1] at h;cases h
     | some q=>
      obtain⟨k,ae⟩:=q
      rw [e1] at h
      simp at h
      obtain⟨rfl,rfl⟩:=h
      obtain⟨l1,l2⟩:=JK e1 hc
      obtain⟨vs,m1,m2,m3⟩:=FK h3 l1 l2
      refine⟨_, .agg vs.toArray,rfl,⟨vs.toArray,rfl,by simpa using m2⟩,?_⟩
      have hl:=run_loadCells_list (P:=P) (w:=w) ⟨σ.at_ d,o,none⟩ vs (fun j v hv=>by rw [addr_add,cell_of hC];exact m3 j v hv)
      rw [m1] at hl
      simp [loadVar,jf ha,aT hs,hl]
    ·cases h
   ·cases h
  ·cases h
 ·cases h
theorem M6 {t:TypeId} {x:AV} {c:aS} {v:AV} (r:eF σ g N w) (h:CV P t x g=some (c,v)) (hc:c.ok) {X:Value} (hx:af σ N x X):Gives P σ N w (Instr.loadAt t X) v:=by
 obtain⟨A,u,rfl,hu,hr⟩:=M5 r h hc hx
 exact Gives.of (x:=u) (by simp [Instr.loadAt,Instr.sureAddr,hr]) hu
theorem M7 {t:TypeId} {x:AV} {g':Mem} {q:aS×AV} (hg:∀d c ro,g d=some (.cells c ro)->g' d=some (.cells c ro)) (h:CV P t x g=some q):CV P t x g'=some q:=by
 unfold CV at h ⊢
 split at h
 ·rename_i d o
  split at h
  ·rename_i c ro hd
   simp only [hg d c ro hd]
   exact h
  ·cases h
 ·cases h
theorem Su {c c':AC} {o:Nat} {a:AV} {k:aS} (h:c.write o a=some (k,c')) (hk:k.ok):o < c.size/\c'.size=c.size/\
  ∀i x,c'.get? i=some x->(i=o/\∀(σ:aZ) (N:Nat) (u:Value),af σ N a u->af σ N x u)\/(i≠o/\c.get? i=some x):=by
 cases c with
 | l cs=>
  simp only [AC.write,Option.some.injEq,Prod.mk.injEq] at h
  obtain⟨rfl,rfl⟩:=h
  have:=hk ((o:Int)+1,(cs.length:Int)) (by simp)
  simp only at this
  refine⟨by simp [AC.size];omega,by simp [AC.size],fun i x hx=>?_⟩
  simp only [AC.get?] at hx ⊢
  by_cases hi:i=o
  ·subst hi
   rw [List.getElem?_set_self (by omega)] at hx
   cases hx
   exact .inl ⟨rfl,fun _ _ _ h=>h⟩
  ·rw [List.getElem?_set_ne (by omega)] at hx
   exact .inr ⟨hi,hx⟩
 | u v n=>
  simp only [AC.write] at h
  cases e:a.le v with
  | none=>rw [e] at h;cases h
  | some q=>
   rw [e] at h
   simp at h
   obtain⟨rfl,rfl⟩:=h
   obtain⟨h1,h2⟩:=aS.aA.1 hk
   simp only at h1
   refine⟨by simp [AC.size];omega,rfl,fun i x hx=>?_⟩
   by_cases hi:i=o
   ·subst hi
    simp only [AC.get?] at hx
    split at hx
    ·cases hx;exact .inl ⟨rfl,fun _ _ _ hu=>M0 e h2 hu⟩
    ·cases hx
   ·exact .inr ⟨hi,hx⟩
theorem FL:∀{ae:List AV} {c c':AC} {o:Nat} {k:aS},c.writes o ae=some (k,c')->k.ok->(ae≠[]->o+ae.length<=c.size)/\c'.size=c.size/\
  ∀i x,c'.get? i=some x->(∃j b,ae[j]?=some b/\i=o+j/\∀(σ:aZ) (N:Nat) (u:Value),af σ N b u->af σ N x u)\/((i < o\/o+ae.length<=i)/\c.get? i=some x)
 | [],c,c',o,k,h,hk=>by
  simp only [AC.writes,Option.some.injEq,Prod.mk.injEq] at h
  obtain⟨rfl,rfl⟩:=h
  exact⟨fun h=>absurd rfl h,rfl,fun i x hx=> .inr ⟨by simp;omega,hx⟩⟩
 | a::ae,c,c',o,k,h,hk=>by
  simp only [AC.writes] at h
  split at h
  ·rename_i k1 c1 h1
   split at h
   ·rename_i k2 c2 h2
    simp only [Option.some.injEq,Prod.mk.injEq] at h
    obtain⟨rfl,rfl⟩:=h
    obtain⟨q1,q2⟩:=aS.aU.1 hk
    obtain⟨a1,a2,a3⟩:=Su h1 q1
    obtain⟨b1,b2,b3⟩:=FL h2 q2
    refine⟨fun _=>?_,b2.trans a2,fun i x hx=>?_⟩
    ·by_cases he:ae=[]
     ·subst he;simp;omega
     ·have:=b1 he
      simp;omega
    ·rcases b3 i x hx with⟨j,b,hb,hi,hs⟩ | ⟨hi,hg⟩
     ·exact .inl ⟨j+1,b,by simpa using hb,by omega,hs⟩
     ·rcases a3 i x hg with⟨rfl,hs⟩ | ⟨hne,hg'⟩
      ·exact .inl ⟨0,a,rfl,rfl,hs⟩
      ·refine .inr ⟨?_,hg'⟩
       simp only [List.length_cons]
       omega
   ·cases h
  ·cases h
theorem Un {C:Array Value} {c c':AC} {o:Nat} {ae:List AV} {vs:List Value} (hrel:ai σ N ae vs) (h:∀i a,c.get? i=some a->∃v,C[i]?=some v/\af σ N a v) (hl:o+vs.length<=C.size)
  (hw:∀i x,c'.get? i=some x->(∃j b,ae[j]?=some b/\i=o+j/\∀(σ:aZ) (N:Nat) (u:Value),af σ N b u->af σ N x u)\/((i < o\/o+ae.length<=i)/\c.get? i=some x)):
  ∀i x,c'.get? i=some x->∃v,(C.toList.take o++vs++C.toList.drop (o+vs.length)).toArray[i]?=some v/\af σ N x v:=by
 intro i x hx
 have hlen:=hrel.length
 have ht:(C.toList.take o).length=o:=by simp;omega
 rcases hw i x hx with⟨j,b,hb,rfl,hs⟩ | ⟨hi,hg⟩
 ·obtain⟨v,hv,hr⟩:=hrel.get hb
  have hj:j < vs.length:=(List.getElem?_eq_some_iff.1 hv).1
  refine⟨v,?_,hs _ _ _ hr⟩
  rw [List.getElem?_toArray,List.append_assoc,List.getElem?_append_right (by rw [ht];omega),ht,Nat.add_sub_cancel_left,List.getElem?_append_left hj]
  exact hv
 ·obtain⟨v,hv,hr⟩:=h i x hg
  refine⟨v,?_,hr⟩
  rw [List.getElem?_toArray,List.append_assoc]
  rcases hi with hi | hi
  ·rw [List.getElem?_append_left (by rw [ht];exact hi),List.getElem?_take_of_lt hi]
   simpa using hv
  ·rw [List.getElem?_append_right (by rw [ht];omega),ht,List.getElem?_append_right (by omega),List.getElem?_drop]
   rw [show o+vs.length+(i - o - vs.length)=i by omega]
   simpa using hv
theorem oJ {C:Array Value} {o:Nat} {vs:List Value} (hl:o+vs.length<=C.size):(C.toList.take o++vs++C.toList.drop (o+vs.length)).toArray.size=C.size:=by
 simp;omega
theorem Uo {d:Nat} {c c':AC} {o:Nat} {ae:List AV} {k:aS} {vs:List Value} (r:eF σ g N w) (b:Base w0 σ g w) (hd:g d=some (.cells c false)) (hw:c.writes o ae=some (k,c')) (hk:k.ok) (hne:ae≠[]) (hrel:ai σ N ae vs) (hone:∀v∈vs,v.oneCell'=true):
  ∃w',(storeCells ⟨σ.at_ d,o,none⟩ vs).run P w= .ok () w'/\Post w0 σ g N w σ (Mem.set g d (.cells c' false)) N w':=by
 obtain⟨C,e,hC,h1,h2,h3⟩:=kr r hd
 obtain⟨a1,a2,a3⟩:=FL hw hk
 have hlen:=hrel.length
 have hle:o+vs.length<=C.size:=by have:=a1 hne;omega
 refine⟨w.setRow (σ.at_ d) (C.toList.take (o+0)++vs++C.toList.drop (o+0+vs.length)).toArray,run_storeCells_at P (σ.at_ d) o e vs 0 C w hC (by omega) hone,?_⟩
 simp only [Nat.add_zero]
 refine Post.set r b d _ _ (.cells (C.toList.take o++vs++C.toList.drop (o+vs.length)).toArray e (0,0)) hd rfl ⟨_,e,(0,0),rfl,?_,?_,fun _=>rfl,Un hrel h3 hle a3⟩ (setRow_size _ _ _) (fun k hk=>setRow_other _ _ _ _ hk) (setRow_heap _ _ _ _ _ _ hC) rfl rfl rfl
 ·rw [oJ hle];exact h1
 ·rw [a2];omega
theorem La {t:TypeId} {x a:AV} {c:aS} {e:Ef} (r:eF σ g N w) (b:Base w0 σ g w) (h:Pp P t x a g=some (c,e)) (hc:c.ok) {X A:Value} (hx:af σ N x X) (ha:af σ N a A):
  vS P w0 σ g N w (do Instr.storeAt t X A;pure .skip) .un e:=by
 unfold Pp at h
 split at h
 ·rename_i d o
  simp only [af] at hx
  obtain⟨_,rfl⟩:=hx
  split at h
  ·rename_i ac hd
   split at h
   ·rename_i hh
    obtain⟨hat,hs⟩:=hh
    cases e1:ac.writes o a.cells with
    | none=>rw [e1] at h;cases h
    | some q=>
     obtain⟨k,c'⟩:=q
     rw [e1] at h
     simp at h
     obtain⟨rfl,rfl⟩:=h
     have hrel:=BP ha hat
     have hlen:=hrel.length
     have hsz:A.cells.size=a.cells.length:=by rw [hlen];simp
     by_cases hne:a.cells=[]
     ·rw [hne] at e1
      simp only [AC.writes,Option.some.injEq,Prod.mk.injEq] at e1
      obtain⟨rfl,rfl⟩:=e1
      have he:A.cells.toList=[]:=by rw [hne] at hlen;exact List.length_eq_zero_iff.1 hlen.symm
      have hm:Mem.set g d (.cells ac false)=g:=by
       funext z
       unfold Mem.set
       split
       ·rename_i hz;subst hz;exact hd.symm
       ·rfl
      refine⟨.skip,w,σ,?_,?_,trivial, .inr ⟨rfl,rfl⟩⟩
      ·simp [Instr.storeAt,Instr.sureAddr,storeVar,aT hs,hsz,he,storeCells]
      ·show Post w0 σ g N w σ (Mem.set g d (.cells ac false)) N w
       rw [hm];exact Post.refl r b
     ·obtain⟨w',hr,hp⟩:=Uo (P:=P) r b hd e1 hc hne hrel (JG hrel hat)
      refine⟨.skip,w',σ,?_,hp,trivial, .inr ⟨rfl,rfl⟩⟩
      simp [Instr.storeAt,Instr.sureAddr,storeVar,aT hs,hsz,hr]
   ·cases h
  ·cases h
 ·cases h
end
end Go.AM
namespace Go.AM
open Go Go.RowKit
section
variable {P:Program} {w0:World} {σ:aZ} {g:Mem} {N:Nat} {w:World}
theorem eF.fresh (r:eF σ g N w):g N=none:=by
 cases h:g N with
 | none=>rfl
 | some o=>have:=(r.ob N o h).1;omega
theorem zz (r:eF σ g N w) (b:Base w0 σ g w) {c:AC} {C:Array Value} (e:TypeId) (hs:c.size<=C.size) (h:∀i a,c.get? i=some a->∃v,C[i]?=some v/\af σ N a v):
  Post w0 σ g N w (σ.ins N w.heap.size C.size) (Mem.push g N (.cells c false)) (N+1) (w.alloc (.cells C e (0,0))):=by
 refine Post.push r b r.fresh _ _ _ ⟨C,e,(0,0),rfl,rfl,hs,fun _=>rfl,fun i a ha=>?_⟩
 obtain⟨v,hv,hr⟩:=h i a ha
 exact⟨v,hv,hr.ext (Ext.ins σ N _ _)⟩
theorem FM {ae:List AV} {C:Array Value} (h:ai σ N ae C.toList):(AC.l ae).size<=C.size/\∀i a,(AC.l ae).get? i=some a->∃v,C[i]?=some v/\af σ N a v:=by
 refine⟨by have:=h.length;simp [AC.size,this],fun i a ha=>?_⟩
 obtain⟨v,hv,hr⟩:=h.get ha
 exact⟨v,by simpa using hv,hr⟩
theorem iZ (σ:aZ) (N r n:Nat):(σ.ins N r n).at_ N=r/\(σ.ins N r n).sz N=n:=by simp [aZ.ins]
theorem FN {cs:List AV} {c:aS} {v:AV} {e:Ef} (r:eF σ g N w) (b:Base w0 σ g w) (h:anew cs N=some (c,v,e)) {X:Value} (hx:ai σ N cs X.cells.toList) (t:TypeId):
  vS P w0 σ g N w (do pure (.value (.pointer (some (<- newVar t X))))) v e:=by
 unfold anew at h
 split at h
 ·simp only [Option.some.injEq,Prod.mk.injEq] at h
  obtain⟨rfl,rfl,rfl⟩:=h
  obtain⟨h1,h2⟩:=FM hx
  refine⟨.value (.pointer (some ⟨w.heap.size,0,none⟩)),_,_,?_,zz r b t h1 h2,Quiet.alloc _ _ _ rfl, .inl ⟨_,rfl,?_⟩⟩
  ·simp [newVar,newRow]
  ·simp only [af,Ef.TL]
   exact⟨by omega,by rw [(iZ _ _ _ _).1]⟩
 ·cases h
theorem ja (v:Value):ai σ N (AV.eX v).cells v.cells.toList:=by
 have hl:∀l:List Value,ai σ N (l.map AV.gL) l:=by
  intro l
  induction l with
  | nil=>simp [ai]
  | cons a l ih=>exact⟨a,l,rfl,ig a,ih⟩
 have hk:∀u:Value,(AV.gL u).cells=[AV.gL u]:=by
  intro u
  unfold AV.gL
  split<;>rfl
 by_cases ha:∃cs,v= .agg cs
 ·obtain⟨cs,rfl⟩:=ha
  exact hl _
 ·have e1:AV.eX v=AV.gL v:=by
   unfold AV.eX
   split
   ·exact absurd ⟨_,rfl⟩ ha
   ·rfl
  have e2:v.cells=#[v]:=by
   unfold Value.cells
   split
   ·exact absurd ⟨_,rfl⟩ ha
   ·rfl
  rw [e1,e2,hk]
  exact ai.one (ig _)
theorem FO:∀(vs:List Value) (k off:Nat) (C:Array Value),off+k+vs.length<=C.size->
  ((vs.zipIdx k).foldl (fun cs (p:Value×Nat)=>cs.setIfInBounds (off+p.2) p.1) C).toList=C.toList.take (off+k)++vs++C.toList.drop (off+k+vs.length)
 | [],k,off,C,h=>by simp
 | v::vs,k,off,C,h=>by
  simp only [List.length_cons] at h
  rw [List.zipIdx_cons,List.foldl_cons,FO vs (k+1) off _ (by simp;omega)]
  simp only [Array.toList_setIfInBounds,List.length_cons]
  rw [show off+(k+1)=off+k+1 by omega,List.take_succ_eq_append_getElem (by simp;omega)]
  rw [List.getElem_set_self,List.take_set_of_le (Nat.le_refl _),List.drop_set_of_lt (by omega)]
  simp
  congr 1
  omega
theorem qD {place:Nat->Option (Nat×Nat)}:∀(ps:List (Nat×AV)) (qs:List (Nat×Value)) (cs:List AV) (C:Array Value) (r:List AV),ps.length=qs.length->(∀(i:Nat) (p:Nat×AV) (q:Nat×Value),ps[i]?=some p->qs[i]?=some q->p.1=q.1/\af σ N p.2 q.2)->
  ai σ N cs C.toList->wK place cs ps=some r->∃R,Instr.fill place C qs=some R/\ai σ N r R.toList
 | [],[],cs,C,r,_,_,hc,h=>by
  simp only [wK,Option.some.injEq] at h
  subst h
  exact⟨C,rfl,hc⟩
 | [],q::qs,cs,C,r,hl,_,_,_=>by simp at hl
 | p::ps,[],cs,C,r,hl,_,_,_=>by simp at hl
 | (i,a)::ps,(j,x)::qs,cs,C,r,hl,hp,hc,h=>by
  obtain⟨hij,hax⟩:=hp 0 _ _ rfl rfl
  simp only at hij hax
  subst hij
  simp only [wK] at h
  cases hpl:place i with
  | none=>rw [hpl] at h;cases h
  | some q=>
   obtain⟨off,size⟩:=q
   rw [hpl] at h
   simp only at h
   split at h
   ·rename_i hh
    obtain⟨h1,h2,h3⟩:=hh
    have hrel:=BP hax h1
    have hlen:=hrel.length
    have hcl:=hc.length
    have hxs:x.cells.size=size:=by rw [<- h2,hlen];simp
    have hcl2:cs.length=C.size:=by simpa using hcl
    have hC:off+x.cells.size<=C.size:=by omega
    have M8:=FO x.cells.toList 0 off C (by simpa using hC)
    simp only [Nat.add_zero] at M8
    have e2:(x.cells.zipIdx.foldl (fun cs (p:Value×Nat)=>cs.setIfInBounds (off+p.2) p.1) C).toList=C.toList.take off++x.cells.toList++C.toList.drop (off+x.cells.toList.length):=by
     rw [<- M8, <- Array.foldl_toList]
     simp
    have Uq:ai σ N (cs.take off++a.cells++cs.drop (off+size)) (x.cells.zipIdx.foldl (fun cs (p:Value×Nat)=>cs.setIfInBounds (off+p.2) p.1) C).toList:=by
     rw [e2]
     have:x.cells.toList.length=size:=by rw [<- hlen,h2]
     rw [this]
     exact((hc.take off).append hrel).append (hc.drop (off+size))
    obtain⟨R,hR,hr⟩:=qD ps qs _ _ r (by simpa using hl) (fun k p q hk hq=>hp (k+1) p q (by simpa using hk) (by simpa using hq)) Uq h
    refine⟨R,?_,hr⟩
    simp only [Instr.fill,hpl]
    rw [if_neg (by simp;omega)]
    exact hR
   ·cases h
theorem sH:∀{fs:List Field} {pl:List (Nat×Nat)},placesOf P fs=some pl->fs.mapM (fun f=>(P.info? f.type).map fun i=>(f.offset,i.size))=some pl
 | [],pl,h=>by simp only [placesOf,Option.some.injEq] at h;subst h;rfl
 | f::fs,pl,h=>by
  simp only [placesOf] at h
  split at h
  ·rename_i n l h1 h2
   injection h with h;subst h
   unfold bu at h1
   cases hi:P.info? f.type with
   | none=>rw [hi] at h1;cases h1
   | some i=>
    rw [hi] at h1
    simp at h1
    simp [List.mapM_cons,hi,sH h2,h1]
  ·cases h
theorem BQ {t:List AV} {a:Act} (ht:ai σ N t a.tmps.toList) (parts:Array (Nat×Operand)):(parts.toList.map fun p=>(p.1,ev t p.2)).length=(parts.map fun(p:Nat×Operand)=>(p.1,a.eval p.2)).toList.length/\
  ∀(i:Nat) (p:Nat×AV) (q:Nat×Value),(parts.toList.map fun p=>(p.1,ev t p.2))[i]?=some p->(parts.map fun(p:Nat×Operand)=>(p.1,a.eval p.2)).toList[i]?=some q->p.1=q.1/\af σ N p.2 q.2:=by
 refine⟨by simp,fun i p q hp hq=>?_⟩
 simp only [List.getElem?_map,Array.toList_map] at hp hq
 cases e:parts.toList[i]? with
 | none=>rw [e] at hp;cases hp
 | some z=>
  rw [e] at hp hq
  simp at hp hq
  subst hp hq
  exact⟨rfl,aN ht _⟩
theorem vB {t:TypeId} {z:AV} (h:qW P t=some z):∃i v,P.info? t=some i/\i.zero=some v/\z=AV.eX v:=by
 unfold qW at h
 cases hi:P.info? t with
 | none=>simp [hi] at h
 | some i=>
  cases hz:i.zero with
  | none=>simp [hi,hz] at h
  | some v=>simp [hi,hz] at h;exact⟨i,v,rfl,hz,h.symm⟩
theorem vC {t:TypeId} {n:Nat} (h:bu P t=some n):∃i,P.info? t=some i/\i.size=n:=by
 unfold bu at h
 cases hi:P.info? t with
 | none=>simp [hi] at h
 | some i=>simp [hi] at h;exact⟨i,rfl,h⟩
theorem Lb {ty:TypeId} {fs:Array Field} {z:AV} {pl:List (Nat×Nat)} {r:List AV} {t:List AV} {a:Act} {parts:Array (Nat×Operand)} (hu:P.underlying ty=some (.struct fs)) (hz:qW P ty=some z) (hp:placesOf P fs.toList=some pl)
  (ht:ai σ N t a.tmps.toList) (h:wK (pl[·]?) z.cells (parts.toList.map fun p=>(p.1,ev t p.2))=some r):
  Gives P σ N w (Instr.build ty (parts.map fun(p:Nat×Operand)=>(p.1,a.eval p.2))) (.agg r):=by
 obtain⟨i,v,hi,hzv,rfl⟩:=vB hz
 obtain⟨h1,h2⟩:=BQ ht parts
 obtain⟨R,hR,hr⟩:=qD _ _ _ _ _ h1 h2 (ja v) h
 refine Gives.of (run_build w ty _ R ?_) ⟨R,rfl,hr⟩
 unfold Program.built
 simp only [hi,hu,hzv,sH hp]
 simpa using hR
theorem M9 {ty e:TypeId} {n:Nat} {z:AV} {m:Nat} {r:List AV} {t:List AV} {a:Act} {parts:Array (Nat×Operand)} (hu:P.underlying ty=some (.array n e)) (hz:qW P ty=some z) (hs:bu P e=some m)
  (ht:ai σ N t a.tmps.toList) (h:wK (fun i=>some (i*m,m)) z.cells (parts.toList.map fun p=>(p.1,ev t p.2))=some r):
  Gives P σ N w (Instr.build ty (parts.map fun(p:Nat×Operand)=>(p.1,a.eval p.2))) (.agg r):=by
 obtain⟨i,v,hi,hzv,rfl⟩:=vB hz
 obtain⟨j,hj,rfl⟩:=vC hs
 obtain⟨h1,h2⟩:=BQ ht parts
 obtain⟨R,hR,hr⟩:=qD _ _ _ _ _ h1 h2 (ja v) h
 refine Gives.of (run_build w ty _ R ?_) ⟨R,rfl,hr⟩
 unfold Program.built
 simp only [hi,hu,hzv,hj]
 simpa using hR
theorem Na {t:TypeId} {cs:List AV} {off:Nat} {v:AV} (h:TU P t cs off=some v) {C:Array Value} (hc:ai σ N cs C.toList):Gives P σ N w (part t C off) v:=by
 unfold TU at h
 split at h
 ·rename_i ha
  split at h
  ·rename_i n hs
   split at h
   ·rename_i hl
    injection h with h;subst h
    refine Gives.of (x:= .agg (C.extract off (off+n))) (by simp [part,jf ha,aT hs]) ⟨_,rfl,?_⟩
    have:=(hc.drop off).take n
    simpa [Array.toList_extract,List.take_drop,Nat.add_comm] using this
   ·cases h
  ·cases h
 ·rename_i ha
  obtain⟨v',hv,hr⟩:=hc.get h
  refine Gives.of (x:=v') ?_ hr
  have:C[off]?=some v':=by simpa using hv
  simp [part,jf ha,this]
 ·cases h
end
end Go.AM
namespace Go.AM
open Go Go.RowKit
section
variable {P:Program} {w0:World} {σ:aZ} {g:Mem} {N:Nat} {w:World}
def WG (σ:aZ) (N:Nat):Option AV->Option Value->Prop
 | none,x=>x=none
 | some a,x=>∃v,x=some v/\af σ N a v
theorem Rp {x:Option AV} {d l:Int} (h:bnd x d=some l) {X:Option Value} (hx:WG σ N x X):(X=none/\x=none/\l=d)\/(∃k,X=some (.int k l)/\x≠none):=by
 unfold bnd at h
 split at h
 ·injection h with h;exact .inl ⟨hx,rfl,h.symm⟩
 ·injection h with h;subst h
  obtain⟨v,rfl,hv⟩:=hx
  simp only [af] at hv;subst hv
  exact .inr ⟨_,rfl,by simp⟩
 ·cases h
theorem qE {lo hi:Option Value} {n C:Nat} {l u:Int} (hl:(lo=none/\l=0)\/∃k,lo=some (.int k l)) (hu:(hi=none/\u=n)\/∃k,hi=some (.int k u)) (h0:0<=l) (h1:l<=u) (h2:u<=n) (hn:n<=C):
  (Instr.sliceBounds true n C lo hi none).run P w= .ok (l.toNat,u.toNat,C) w:=by
 have b1:∀k,(Instr.sliceBound (.int k u) C .sliceAcap).run P w= .ok u.toNat w:=fun k=>run_sliceBound w k _ _ _ (by omega) (by omega)
 have b2:∀k,(Instr.sliceBound (.int k l) u.toNat .sliceB).run P w= .ok l.toNat w:=fun k=>run_sliceBound w k _ _ _ (by omega) (by omega)
 rcases hu with⟨rfl,rfl⟩ | ⟨k,rfl⟩<;>rcases hl with⟨rfl,rfl⟩ | ⟨k',rfl⟩
 ·simp [Instr.sliceBounds]
 ·have:=b2 k'
  simp at this
  simp [Instr.sliceBounds,this]
 ·simp [Instr.sliceBounds,b1]
 ·simp [Instr.sliceBounds,b1,b2]
theorem Lc {t:TypeId} {x:AV} {lo hi:Option AV} {c:aS} {v:AV} (h:Pt P t x lo hi=some (c,v)) (hc:c.ok) {X:Value} {lo' hi':Option Value} (hx:af σ N x X) (hlo:WG σ N lo lo') (hhi:WG σ N hi hi'):
  Gives P σ N w (Instr.sliceAt t X lo' hi' none) v:=by
 unfold Pt at h
 split at h
 ·rename_i e a n cp es hu
  have hat:∀Y:Value,(Instr.sliceAt t Y lo' hi' none).run P w=(Instr.slice t Y lo' hi' none).run P w:=fun Y=>by simp [Instr.sliceAt,run_underlying hu]
  split at h
  ·rename_i z l u hs hbl hbu
   have kl:(lo'=none/\l=0)\/∃k,lo'=some (.int k l):=by
    rcases Rp hbl hlo with⟨h1,_,h2⟩ | ⟨k,h1,_⟩
    ·exact .inl ⟨h1,h2⟩
    ·exact .inr ⟨k,h1⟩
   have ku:(hi'=none/\u=n)\/∃k,hi'=some (.int k u):=by
    rcases Rp hbu hhi with⟨h1,_,h2⟩ | ⟨k,h1,_⟩
    ·exact .inl ⟨h1,h2⟩
    ·exact .inr ⟨k,h1⟩
   have hrun:∀(A:Option Addr) (C:Nat),(Instr.sliceBounds true n C lo' hi' none).run P w= .ok (l.toNat,u.toNat,C) w->
     (Instr.slice t (.slice A n C) lo' hi' none).run P w= .ok (.slice (if C=l.toNat then A else A.map (·.add (l.toNat*z))) (u.toNat - l.toNat) (C - l.toNat)) w:=fun A C hb=>by
    simp [Instr.slice,run_underlying hu,hb,aT hs]
   split at h
   ·injection h with h
    simp only [Prod.mk.injEq] at h
    obtain⟨rfl,rfl⟩:=h
    simp only [af] at hx
    obtain⟨rfl,rfl⟩:=hx
    have c1:=hc (0,l) (by simp)
    have c2:=hc (l,u) (by simp)
    have c3:=hc (u,0) (by simp)
    simp only at c1 c2 c3
    refine Gives.of (x:= .slice none 0 0) ?_ (by simp [af])
    rw [hat,hrun none 0 (qE kl ku c1 c2 (by omega) (Nat.le_refl _))]
    have e1:l.toNat=0:=by omega
    have e2:u.toNat=0:=by omega
    rw [e1,e2];rfl
   ·rename_i d o
    split at h
    ·rename_i hes
     subst hes
     injection h with h
     simp only [Prod.mk.injEq] at h
     obtain⟨rfl,rfl⟩:=h
     simp only [af] at hx
     obtain⟨hd,A,C,rfl,hcap,hA,El,hnC⟩:=hx
     have c1:=hc (0,l) (by simp)
     have c2:=hc (l,u) (by simp)
     have c3:=hc (u,(n:Int)) (by simp)
     simp only at c1 c2 c3
     refine Gives.of (x:= .slice (if C=l.toNat then A else A.map (·.add (l.toNat*z))) (u.toNat - l.toNat) (C - l.toNat)) ?_ ?_
     ·rw [hat,hrun A C (qE kl ku c1 c2 c3 hnC)]
     ·have eu:(u - l).toNat=u.toNat - l.toNat:=by omega
      rw [eu]
      show d < N/\∃A' C',_/\_
      refine⟨hd,_,_,rfl,fun c' h=>(by cases h),fun hne=>?_,fun hn=>?_,by omega⟩
      ·obtain⟨rfl,_,hsz⟩:=hA (by omega)
       rw [if_neg (by omega)]
       refine⟨by simp [addr_add],by omega,?_⟩
       have:l.toNat*z+(C - l.toNat)*z=C*z:=by rw [<- Nat.add_mul];congr 1;omega
       omega
      ·cases A with
       | none=>exact El rfl
       | some q=>
        by_cases hC:C=l.toNat
        ·rw [if_pos hC] at hn;cases hn
        ·rw [if_neg hC] at hn;cases hn
    ·cases h
  ·cases h
 ·cases h
theorem ji {α:Type} (l:List α):∀(n j:Nat),j < n*l.length->((List.replicate n l).flatten)[j]?=l[j % l.length]?
 | 0,j,h=>by simp at h
 | n+1,j,h=>by
  rw [List.replicate_succ,List.flatten_cons]
  by_cases hj:j < l.length
  ·rw [List.getElem?_append_left hj,Nat.mod_eq_of_lt hj]
  ·rw [List.getElem?_append_right (by omega),ji l n (j - l.length) (by rw [Nat.add_mul,Nat.one_mul] at h;omega)]
   congr 1
   exact(Nat.mod_eq_sub_mod (by omega)).symm
theorem sI {α:Type} (l:List α) (n:Nat):((List.replicate n l).flatten).length=n*l.length:=by simp
theorem run_make {t e:TypeId} {i:TypeInfo} {z:Value} (hu:P.underlying t=some (.slice e)) (hi:P.info? e=some i) (hz:i.zero=some z) (k k':IntKind) (n:Int) (h0:0<=n) (hb:(i.bytes:Int)*n<=281474976710656) (hn:n<=1152921504606846976):
  (Instr.makeSlice t (.int k n) (.int k' n)).run P w= .ok (.slice (some ⟨w.heap.size,0,none⟩) n.toNat n.toNat) (w.alloc (.cells ((Array.range (n.toNat*i.size)).map fun j=>(if n.toNat*i.size=0 then #[] else z.cells)[j % (if n.toNat*i.size=0 then #[] else z.cells).size]!) e)):=by
 have hw:IntKind.i64.wrap n=n:=jA (by simp [IntKind.min,IntKind.signed,IntKind.bits];omega) (by simp [IntKind.max,IntKind.signed,IntKind.bits];omega)
 have t1:(decide (n < 0)||decide ((i.bytes:Int)*n > 2 ^ 48))=false:=by simp;omega
 unfold Instr.makeSlice
 simp only [Sem.run_bind,run_underlying hu,Result.andThen_ok,asInt,asIntOf,Sem.run_pure,run_typeInfo w hi,hw,t1]
 have t2:(decide (n < 0)||decide (n > n))=false:=by simp;omega
 simp only [Bool.false_or,t2,Bool.false_eq_true,if_false,Sem.run_bind,run_askRoom,Result.andThen_ok,sizeOf,run_typeInfo w hi,Sem.run_pure]
 by_cases hc:n.toNat*i.size=0
 ·simp [hc,newRow]
 ·simp [hc,newRow,zeroValue,run_typeInfo w hi,hz]
theorem Nb {i:TypeInfo} {z:Value} {n:Nat} (hl:(AV.eX z).cells.length=i.size) (hs:i.size≠0) (j:Nat) (hj:j < n*i.size):
  ∃a v,(AV.eX z).cells[j % i.size]?=some a/\((Array.range (n*i.size)).map fun j=>(if n*i.size=0 then #[] else z.cells)[j % (if n*i.size=0 then #[] else z.cells).size]!)[j]?=some v/\af σ N a v:=by
 have hr:=ja (σ:=σ) (N:=N) z
 have hlen:=hr.length
 have hsz:z.cells.size=i.size:=by rw [<- hl,hlen];simp
 have hm:j % i.size < i.size:=Nat.mod_lt _ (by omega)
 obtain⟨v,hv,hrel⟩:=hr.get (List.getElem?_eq_getElem (show j % i.size < (AV.eX z).cells.length by omega))
 refine⟨_,v,List.getElem?_eq_getElem (by omega),?_,hrel⟩
 rw [if_neg (by omega)]
 have:z.cells[j % i.size]?=some v:=by simpa using hv
 simp [hj,hsz]
 rw [getElem!_def,this]
theorem Nc {md:Md} {t:TypeId} {l m:AV} {c:aS} {v:AV} {e:Ef} (r:eF σ g N w) (b:Base w0 σ g w) (h:TZ P md t l m N=some (c,v,e)) (hc:c.ok) {L M:Value} (hl:af σ N l L) (hm:af σ N m M):
  vS P w0 σ g N w (do pure (.value (<- Instr.makeSlice t L M))) v e:=by
 unfold TZ at h
 split at h
 ·rename_i el k n k' n' hu
  split at h
  ·rename_i i hi
   split at h
   ·rename_i z hz
    split at h
    ·rename_i hh
     obtain⟨_,hlen,hs⟩:=hh
     split at h
     ·rename_i cs hcs
      simp only [Option.some.injEq,Prod.mk.injEq] at h
      obtain⟨rfl,rfl,rfl⟩:=h
      simp only [af] at hl hm
      subst hl hm
      have c1:=hc (0,n) (by simp)
      have c2:=hc (n,n') (by simp)
      have c3:=hc (n',n) (by simp)
      have c4:=hc ((i.bytes:Int)*n,281474976710656) (by simp)
      have c5:=hc (n,1152921504606846976) (by simp)
      simp only at c1 c2 c3 c4 c5
      obtain rfl:n'=n:=by omega
      have hrun:=run_make (P:=P) (w:=w) hu hi hz k k' n' c1 c4 c5
      have hrow:cs.size<=((Array.range (n'.toNat*i.size)).map fun j=>(if n'.toNat*i.size=0 then #[] else z.cells)[j % (if n'.toNat*i.size=0 then #[] else z.cells).size]!).size/\
        ∀q a,cs.get? q=some a->∃v,((Array.range (n'.toNat*i.size)).map fun j=>(if n'.toNat*i.size=0 then #[] else z.cells)[j % (if n'.toNat*i.size=0 then #[] else z.cells).size]!)[q]?=some v/\af σ N a v:=by
       have hrep:∀q a,(AC.l ((List.replicate n'.toNat (AV.eX z).cells).flatten)).get? q=some a->∃v,((Array.range (n'.toNat*i.size)).map fun j=>(if n'.toNat*i.size=0 then #[] else z.cells)[j % (if n'.toNat*i.size=0 then #[] else z.cells).size]!)[q]?=some v/\af σ N a v:=by
        intro q a ha
        simp only [AC.get?] at ha
        have hq:q < n'.toNat*i.size:=by
         have:=(List.getElem?_eq_some_iff.1 ha).1
         rw [sI,hlen] at this
         exact this
        obtain⟨a',v,h1,h2,h3⟩:=Nb (σ:=σ) (N:=N) (n:=n'.toNat) hlen hs q hq
        rw [ji _ _ _ (by rw [hlen];exact hq),hlen,h1] at ha
        cases ha
        exact⟨v,h2,h3⟩
       have hone:∀(x:AV) (a0:AV),(AV.eX z).cells=[a0]->(∀u,af σ N a0 u->af σ N x u)->∀q a,(AC.u x n'.toNat).get? q=some a->∃v,((Array.range (n'.toNat*i.size)).map fun j=>(if n'.toNat*i.size=0 then #[] else z.cells)[j % (if n'.toNat*i.size=0 then #[] else z.cells).size]!)[q]?=some v/\af σ N a v:=by
        intro x a0 hz0 hle q a ha
        have h1:i.size=1:=by rw [<- hlen,hz0];rfl
        simp only [AC.get?] at ha
        split at ha
        ·rename_i hq
         cases ha
         obtain⟨a',v,e1,e2,e3⟩:=Nb (σ:=σ) (N:=N) (n:=n'.toNat) hlen hs q (by rw [h1];omega)
         rw [hz0,h1] at e1
         simp [Nat.mod_one] at e1
         subst e1
         exact⟨v,e2,hle _ e3⟩
        ·cases ha
       have hu1:∀x:AV,∀a0,(AV.eX z).cells=[a0]->(AC.u x n'.toNat).size<=((Array.range (n'.toNat*i.size)).map fun j=>(if n'.toNat*i.size=0 then #[] else z.cells)[j % (if n'.toNat*i.size=0 then #[] else z.cells).size]!).size:=by
        intro x a0 hz0
        have h1:i.size=1:=by rw [<- hlen,hz0];rfl
        simp [AC.size,h1]
       unfold Q9 at hcs
       split at hcs
       ·injection hcs with hcs;subst hcs
        exact⟨by simp [AC.size,sI,hlen],hrep⟩
       ·split at hcs
        ·rename_i hz0
         injection hcs with hcs;subst hcs
         exact⟨hu1 _ _ hz0,hone _ _ hz0 fun u hu=>by simp only [af] at hu ⊢;exact⟨_,hu,by decide⟩⟩
        ·rename_i x hz0
         injection hcs with hcs;subst hcs
         exact⟨hu1 _ _ hz0,hone _ _ hz0 fun u hu=>by obtain⟨b,rfl,_⟩:=zu hu;exact yh _⟩
        ·rename_i k0 hz0
         injection hcs with hcs;subst hcs
         exact⟨hu1 _ _ hz0,hone _ _ hz0 fun u hu=>by simp only [af] at hu;subst hu;exact qA ⟨by cases k0<;>decide,by cases k0<;>decide⟩⟩
        ·injection hcs with hcs;subst hcs
         exact⟨by simp [AC.size,sI,hlen],hrep⟩
      refine⟨.value (.slice (some ⟨w.heap.size,0,none⟩) n'.toNat n'.toNat),_,_,by simp [hrun],zz r b el hrow.1 hrow.2,Quiet.alloc _ _ _ rfl, .inl ⟨_,rfl,?_⟩⟩
      simp only [af,Ef.TL]
      refine⟨by omega,_,_,rfl,fun c' h=>by injection h,fun _=>⟨by rw [(iZ _ _ _ _).1],Nat.le_refl _,?_⟩,(by simp),Nat.le_refl _⟩
      rw [(iZ _ _ _ _).2]
      simp
     ·cases h
    ·cases h
   ·cases h
  ·cases h
 ·cases h
end
end Go.AM
