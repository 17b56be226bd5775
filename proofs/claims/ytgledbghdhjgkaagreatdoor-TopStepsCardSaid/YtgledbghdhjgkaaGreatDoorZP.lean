/-
  A part of the proof that TopSteps answers true for every input that can be read as data.
-/
import Derived.Test.YtgledbghdhjgkaaGreatDoorZJ
import Derived.Test.YtgledbghdhjgkaaGreatDoorZO
import Derived.WalkKit
set_option linter.unusedSimpArgs false
set_option linter.unusedVariables false
namespace Go.Proofs.YtgledbghdhjgkaaGreatDoor
open Go Go.TM
set_option maxRecDepth 100000
def Xz (R O k:Nat) (wd:Nat->Int):iM:={Y7 with NN:=R,ZO:=O,WU:=O+k,Yb:=wd}
structure aR (x:Int):Prop where
 out:¬x / 4503599627370496 % 2048=2047
def jK (x:Int):Int:=x*2 % 18446744073709551616 / 2
structure cK (x:Int):Prop where
 out:jK x=0\/(2805742567851819008<=jK x/\jK x<=6408622269748215808)
structure iX (O:Nat) (wd:Nat->Int) (n i j:Int):Prop where
 out:wd (O+(i*n+j).toNat)=wd (O+(j*n+i).toNat)\/(jK (wd (O+(i*n+j).toNat))=0/\jK (wd (O+(j*n+i).toNat))=0)
structure QW (O k:Nat) (wd:Nat->Int) (s m n:Int):Prop where
 out:(0<=m/\m<=512/\0<=n/\n<=512/\(k:Int)=m*n)/\(∀q:Nat,q < k->aR (wd (O+q)))/\(s=1->∀i j:Int,0<=i->i < m->0<=j->j < n->iX O wd n i j)/\(∀q:Nat,q < k->cK (wd (O+q)))
def KH (A:Option Addr) (R O k C:Nat) (wd:Nat->Int):List Alt:=[⟨.i .i64 (some 0),fun | [x]=>(fun | [y]=>y=x / 4503599627370496 % 2048 | _=>False) | _=>fun _=>False⟩]
def O6 (A:Option Addr) (R O k C:Nat) (wd:Nat->Int):List Alt:=[⟨.i .u64 (some 0),fun | [x]=>(fun | [y]=>y=jK x | _=>False) | _=>fun _=>False⟩]
def xW (A:Option Addr) (R O k C:Nat) (wd:Nat->Int):List Alt:=[⟨.b (some true),fun | [x]=>(fun | []=>aR x | _=>False) | _=>fun _=>False⟩,⟨.b (some false),fun | [x]=>(fun | []=>¬aR x | _=>False) | _=>fun _=>False⟩]
def O7 (A:Option Addr) (R O k C:Nat) (wd:Nat->Int):List Alt:=[⟨.b (some true),fun | [i,j]=>(fun | []=>True | _=>False) | _=>fun _=>False⟩]
def IK (A:Option Addr) (R O k C:Nat) (wd:Nat->Int):List Alt:=[⟨.b (some true),fun | [x]=>(fun | []=>aR x | _=>False) | _=>fun _=>False⟩,⟨.b (some false),fun | [x]=>(fun | []=>¬aR x | _=>False) | _=>fun _=>False⟩]
def Eh (A:Option Addr) (R O k C:Nat) (wd:Nat->Int):List Alt:=[⟨.b (some true),fun | [x]=>(fun | []=>cK x | _=>False) | _=>fun _=>False⟩,⟨.b (some false),fun | [x]=>(fun | []=>¬cK x | _=>False) | _=>fun _=>False⟩]
def KI (A:Option Addr) (R O k C:Nat) (wd:Nat->Int):List Alt:=[⟨.b (some true),fun | [x]=>(fun | []=>¬aR x | _=>False) | _=>fun _=>False⟩,⟨.b (some false),fun | [x]=>(fun | []=>aR x | _=>False) | _=>fun _=>False⟩]
def Ei (A:Option Addr) (R O k C:Nat) (wd:Nat->Int):List Alt:=[⟨.b (some true),fun | [i,j,n]=>(fun | []=>iX O wd n i j | _=>False) | _=>fun _=>False⟩,⟨.b (some false),fun | [i,j,n]=>(fun | []=>¬iX O wd n i j | _=>False) | _=>fun _=>False⟩]
def xX (A:Option Addr) (R O k C:Nat) (wd:Nat->Int):List Alt:=[⟨.i .i64 (some 0),fun | []=>(fun | [e]=>(e= -1/\∀q:Nat,q < k->aR (wd (O+q)))\/(0<=e/\¬(∀q:Nat,q < k->aR (wd (O+q)))) | _=>False) | _=>fun _=>False⟩]
def Bv (A:Option Addr) (R O k C:Nat) (wd:Nat->Int):List Alt:=[⟨.b (some true),fun | []=>(fun | []=>¬(∀q:Nat,q < k->aR (wd (O+q))) | _=>False) | _=>fun _=>False⟩,⟨.b (some false),fun | []=>(fun | []=>∀q:Nat,q < k->aR (wd (O+q)) | _=>False) | _=>fun _=>False⟩]
def KJ (A:Option Addr) (R O k C:Nat) (wd:Nat->Int):List Alt:=[⟨.aF [.agg [.i .i64 (some 0), .i .i64 (some 0), .s [.f] (some 0)], .i .i64 (some 0)],fun | [m,n]=>(fun | [r,c,d,e]=>(e=0->(0<=m/\m<=512/\0<=n/\n<=512/\(k:Int)=m*n)/\(∀q:Nat,q < k->aR (wd (O+q)))/\(∀q:Nat,q < k->cK (wd (O+q)))/\r=m/\c=n/\d=m*n)/\0<=d/\d<=262144/\0<=e/\e<=10 | _=>False) | _=>fun _=>False⟩]
def KL (A:Option Addr) (R O k C:Nat) (wd:Nat->Int):List Alt:=[⟨.aF [.agg [.i .i64 (some 0), .i .i64 (some 0), .s [.f] (some 0)], .i .i64 (some 0)],fun | [m,n]=>(fun | [r,c,d,e]=>(e=0->(0<=m/\m<=512/\0<=n/\n<=512/\(k:Int)=m*n)/\(∀q:Nat,q < k->aR (wd (O+q)))/\(∀i j:Int,0<=i->i < m->0<=j->j < n->iX O wd n i j)/\(∀q:Nat,q < k->cK (wd (O+q)))/\r=m/\c=n/\d=m*n)/\0<=d/\d<=262144/\0<=e/\e<=10 | _=>False) | _=>fun _=>False⟩]
def y8 (A:Option Addr) (R O k C:Nat) (wd:Nat->Int):List Alt:=[⟨.aF [.agg [.i .i64 (some 0), .i .i64 (some 0), .s [.f] (some 0)], .i .i64 (some 0)],fun | [n]=>(fun | [r,c,d,e]=>(e=0->QW O k wd 1 n n/\r=n/\c=n/\d=n*n/\0<=n/\n<=512/\0<=n/\n<=512)/\0<=d/\d<=262144/\0<=e/\e<=10 | _=>False) | _=>fun _=>False⟩]
def Mw (A:Option Addr) (R O k C:Nat) (wd:Nat->Int):List Alt:=[⟨.aF [.agg [.i .i64 (some 0), .i .i64 (some 0), .s [.f] (some 0)], .i .i64 (some 0)],fun | [m,n]=>(fun | [r,c,d,e]=>(e=0->QW O k wd 0 m n/\r=m/\c=n/\d=m*n/\0<=m/\m<=512/\0<=n/\n<=512)/\0<=d/\d<=262144/\0<=e/\e<=10 | _=>False) | _=>fun _=>False⟩]
def mX (A:Option Addr) (R O k C:Nat) (wd:Nat->Int):List Alt:=[⟨.b (some true),fun | [x]=>(fun | []=>aR x/\cK x | _=>False) | _=>fun _=>False⟩,⟨.b (some false),fun | [x]=>(fun | []=>¬(aR x/\cK x) | _=>False) | _=>fun _=>False⟩]
def KM (A:Option Addr) (R O k C:Nat) (wd:Nat->Int):List Alt:=[⟨.i .i64 (some 0),fun | [m,n]=>(fun | [e]=>QW O k wd 1 m n->e=0 | _=>False) | _=>fun _=>False⟩]
def KN (A:Option Addr) (R O k C:Nat) (wd:Nat->Int):List Alt:=[⟨.i .i64 (some 0),fun | [m,n]=>(fun | [e]=>QW O k wd 0 m n->e=0 | _=>False) | _=>fun _=>False⟩]
def KO (A:Option Addr) (R O k C:Nat) (wd:Nat->Int):Extra:=fun f l=>
 bif Nat.beq f 154 then (match l with
  | [.i .u64 (some x)]=>some (0<=x/\x < 18446744073709551616,[x],KH A R O k C wd)
  | _=>none)
 else bif Nat.beq f 79 then (match l with
  | [.i .u64 (some x)]=>some (0<=x/\x < 18446744073709551616,[x],O6 A R O k C wd)
  | _=>none)
 else bif Nat.beq f 37 then (match l with
  | [.i .u64 (some x)]=>some (0<=x/\x < 18446744073709551616,[x],xW A R O k C wd)
  | _=>none)
 else bif Nat.beq f 46 then (match l with
  | [.i .i64 (some i), .i .i64 (some j)]=>some (True,[i,j],O7 A R O k C wd)
  | _=>none)
 else bif Nat.beq f 38 then (match l with
  | [.i .u64 (some x)]=>some (0<=x/\x < 18446744073709551616,[x],mX A R O k C wd)
  | _=>none)
 else none
def QM (A:Option Addr) (R O k C:Nat) (wd:Nat->Int):Extra:=fun f l=>
 bif Nat.beq f 95 then (match l with
  | [.i .u64 (some x)]=>some (0<=x/\x < 18446744073709551616,[x],IK A R O k C wd)
  | _=>none)
 else bif Nat.beq f 96 then (match l with
  | [.i .u64 (some x)]=>some (0<=x/\x < 18446744073709551616,[x],Eh A R O k C wd)
  | _=>none)
 else none
def TR (A:Option Addr) (R O k C:Nat) (wd:Nat->Int):Extra:=fun f l=>
 bif Nat.beq f 94 then (match l with
  | [.i .u64 (some x)]=>some (0<=x/\x < 18446744073709551616,[x],KI A R O k C wd)
  | _=>none)
 else bif Nat.beq f 78 then (match l with
  | [.i .i64 (some i), .i .i64 (some j),a2, .p [.i .i64 (some n)]]=>some (a2= .p [.val (.slice A k C)]/\0<=i/\i < n/\0<=j/\j < n/\n<=512/\(k:Int)=n*n,[i,j,n],Ei A R O k C wd)
  | _=>none)
 else none
def Wt (A:Option Addr) (R O k C:Nat) (wd:Nat->Int):Extra:=fun f l=>
 bif Nat.beq f 153 then (match l with
  | [a0,a1]=>some (a0= .val (.slice A k C)/\a1= .fn 94 [] [],[],xX A R O k C wd)
  | _=>none)
 else none
def Zj (A:Option Addr) (R O k C:Nat) (wd:Nat->Int):Extra:=fun f l=>
 bif Nat.beq f 93 then (match l with
  | [a0,a1]=>some (a0= .val (.slice A k C)/\a1= .fn 94 [] [],[],Bv A R O k C wd)
  | _=>none)
 else none
def ex6 (A:Option Addr) (R O k C:Nat) (wd:Nat->Int):Extra:=fun f l=>
 bif Nat.beq f 45 then (match l with
  | [.i .i64 (some m), .i .i64 (some n),a2, .fn gg fs cs]=>(bif Nat.beq gg 46 then some (a2= .val (.slice A k C)/\fs=[]/\cs=[],[m,n],KJ A R O k C wd) else bif Nat.beq gg 78 then some (a2= .val (.slice A k C)/\fs=[]/\cs=[.p [.val (.slice A k C)], .p [.i .i64 (some n)]]/\m=n,[m,n],KL A R O k C wd) else none)
  | _=>none)
 else none
def ex7 (A:Option Addr) (R O k C:Nat) (wd:Nat->Int):Extra:=fun f l=>
 bif Nat.beq f 33 then (match l with
  | [.i .i64 (some n),a1]=>some (a1= .val (.slice A k C),[n],y8 A R O k C wd)
  | _=>none)
 else bif Nat.beq f 18 then (match l with
  | [.i .i64 (some m), .i .i64 (some n),a2]=>some (a2= .val (.slice A k C),[m,n],Mw A R O k C wd)
  | _=>none)
 else none
theorem mY (R O:Nat):eZ (some ⟨R,O,none⟩)=1:=rfl
theorem y9 (R O:Nat):jJ (some ⟨R,O,none⟩)=R:=rfl
theorem za (R O:Nat):aW (some ⟨R,O,none⟩)=O:=rfl
theorem zb (R O i:Nat):bR (some ⟨R,O,none⟩) i=some ⟨R,O+i,none⟩:=by simp [bR,AM.addr_add]
theorem QN {P:Nat->Prop} {x:Int} {q:Nat} (h:∀q:Nat,(q:Int) < x->P q) (hx:P x.toNat) (h0:0<=x) (hq:(q:Int) < x+1):P q:=by
 by_cases e:(q:Int) < x
 ·exact h q e
 ·have:q=x.toNat:=by omega
  subst this;exact hx
theorem row_of {S:Int->Prop} {y j:Int} (h:∀j:Int,0<=j->j < y->S j) (hx:S y) (h0:0<=j) (hj:j < y+1):S j:=by
 by_cases e:j < y
 ·exact h j h0 e
 ·have:j=y:=by omega
  subst this;exact hx
theorem R8 {S:Int->Int->Prop} {x y n i j:Int} (h:∀i j:Int,0<=i->i < x->0<=j->j < n->S i j) (hx:∀j:Int,0<=j->j < y->S x j) (hy:¬y < n) (h0:0<=i) (hi:i < x+1) (h1:0<=j) (hj:j < n):S i j:=by
 by_cases e:i < x
 ·exact h i j h0 e h1 hj
 ·have:i=x:=by omega
  subst this;exact hx j h1 (by omega)
set_option maxHeartbeats 2000000 in
theorem XB (A:Option Addr) (R O k C:Nat) (wd:Nat->Int) (hw:∀q,0<=wd q/\wd q < 18446744073709551616) (hk:k<=9223372036854775807) (hA:k=0\/A=some ⟨R,O,none⟩) (x:Int) (hp:0<=x/\x < 18446744073709551616):(1:Int)<=1/\(1:Int)<=1/\(0:Int)<=1/\(1:Int)<=63/\(x*2 % 18446744073709551616 / 2 ^ Int.toNat 1=jK x\/False):=by
 have hA':=hA
 rcases hA with hk0 | rfl<;>(try simp only [zb,mY,y9,za])<;>(try simp only [or_false])
 all_goals repeat' (first | (with_reducible refine and_imp.mpr ?_) | (unhygienic intro) | refine And.intro ?_ ?_)
 all_goals try simp only [and_true,true_and,or_true,true_or,or_false,false_or,and_false,false_and,not_true_eq_false,not_false_eq_true]
 all_goals first | trivial | rfl | omega | exact(hw _).1 | exact(hw _).2 | (have:=(hw ‹Nat›);omega) | (simp [jK])
set_option maxHeartbeats 2000000 in
theorem Mx (A:Option Addr) (R O k C:Nat) (wd:Nat->Int) (hw:∀q,0<=wd q/\wd q < 18446744073709551616) (hk:k<=9223372036854775807) (hA:k=0\/A=some ⟨R,O,none⟩) (x:Int) (hp:0<=x/\x < 18446744073709551616):(0:Int)<=52/\(52:Int)<=63/\(2048:Int)<=2048/\(2048:Int)<=2048/\0<=x / 2 ^ Int.toNat 52/\(¬x / 2 ^ Int.toNat 52 % (2048:Int)=2047->aR x\/False)/\(¬¬x / 2 ^ Int.toNat 52 % (2048:Int)=2047->¬aR x\/False):=by
 have hA':=hA
 rcases hA with hk0 | rfl<;>(try simp only [zb,mY,y9,za])<;>(try simp only [or_false])
 all_goals repeat' (first | (with_reducible refine and_imp.mpr ?_) | (unhygienic intro) | refine And.intro ?_ ?_)
 all_goals try simp only [and_true,true_and,or_true,true_or,or_false,false_or,and_false,false_and,not_true_eq_false,not_false_eq_true]
 all_goals first | trivial | rfl | omega | exact(hw _).1 | exact(hw _).2 | (have:=(hw ‹Nat›);omega) | (have e52:(2:Int) ^ Int.toNat 52=4503599627370496:=rfl;simp only [e52] at*;first | omega | (have h:=(‹aR x›).out;omega) | (constructor;omega) | (intro h;exact absurd h.out (by omega)))
set_option maxHeartbeats 2000000 in
theorem XD (A:Option Addr) (R O k C:Nat) (wd:Nat->Int) (hw:∀q,0<=wd q/\wd q < 18446744073709551616) (hk:k<=9223372036854775807) (hA:k=0\/A=some ⟨R,O,none⟩) (i j:Int):True\/False:=by
 have hA':=hA
 rcases hA with hk0 | rfl<;>(try simp only [zb,mY,y9,za])<;>(try simp only [or_false])
 all_goals repeat' (first | (with_reducible refine and_imp.mpr ?_) | (unhygienic intro) | refine And.intro ?_ ?_)
 all_goals try simp only [and_true,true_and,or_true,true_or,or_false,false_or,and_false,false_and,not_true_eq_false,not_false_eq_true]
 all_goals first | trivial | rfl | omega | exact(hw _).1 | exact(hw _).2 | (have:=(hw ‹Nat›);omega) | fail
set_option maxHeartbeats 2000000 in
theorem Tu (A:Option Addr) (R O k C:Nat) (wd:Nat->Int) (hw:∀q,0<=wd q/\wd q < 18446744073709551616) (hk:k<=9223372036854775807) (hA:k=0\/A=some ⟨R,O,none⟩) (x:Int) (hp:0<=x/\x < 18446744073709551616):(0<=x/\x < 18446744073709551616)/\(∀(lW:Int),lW=x / 4503599627370496 % 2048->(¬lW=2047->aR x\/False)/\(¬¬lW=2047->¬aR x\/False))/\True:=by
 have hA':=hA
 rcases hA with hk0 | rfl<;>(try simp only [zb,mY,y9,za])<;>(try simp only [or_false])
 all_goals repeat' (first | (with_reducible refine and_imp.mpr ?_) | (unhygienic intro) | refine And.intro ?_ ?_)
 all_goals try simp only [and_true,true_and,or_true,true_or,or_false,false_or,and_false,false_and,not_true_eq_false,not_false_eq_true]
 all_goals first | trivial | rfl | omega | exact(hw _).1 | exact(hw _).2 | (have:=(hw ‹Nat›);omega) | exact⟨by omega⟩ | (intro h;exact absurd h.out (by omega)) | exact absurd (‹aR x›).out (by omega) | assumption | contradiction | exact absurd ‹aR x› ‹¬aR x›
set_option maxHeartbeats 2000000 in
theorem QO (A:Option Addr) (R O k C:Nat) (wd:Nat->Int) (hw:∀q,0<=wd q/\wd q < 18446744073709551616) (hk:k<=9223372036854775807) (hA:k=0\/A=some ⟨R,O,none⟩) (x:Int) (hp:0<=x/\x < 18446744073709551616):(0<=x/\x < 18446744073709551616)/\(∀(lW:Int),lW=jK x->(¬lW=0->(0<=x/\x < 18446744073709551616)/\(∀(kN:Int),kN=jK x->(2805742567851819008<=kN->(0<=x/\x < 18446744073709551616)/\(∀(nk:Int),nk=jK x->(nk<=6408622269748215808->cK x\/False)/\(¬nk<=6408622269748215808->¬cK x\/False))/\True)/\(¬2805742567851819008<=kN->¬cK x\/False))/\True)/\(lW=0->cK x\/False))/\True:=by
 have hA':=hA
 rcases hA with hk0 | rfl<;>(try simp only [zb,mY,y9,za])<;>(try simp only [or_false])
 all_goals repeat' (first | (with_reducible refine and_imp.mpr ?_) | (unhygienic intro) | refine And.intro ?_ ?_)
 all_goals try simp only [and_true,true_and,or_true,true_or,or_false,false_or,and_false,false_and,not_true_eq_false,not_false_eq_true]
 all_goals first | trivial | rfl | omega | exact(hw _).1 | exact(hw _).2 | (have:=(hw ‹Nat›);omega) | (have h:=(‹cK x›).out;simp only [jK] at*;omega) | (simp only [jK] at*;first | omega | exact⟨by simp only [jK];omega⟩ | (intro h;have:=h.out;simp only [jK] at this;omega))
set_option maxHeartbeats 2000000 in
theorem VJ (A:Option Addr) (R O k C:Nat) (wd:Nat->Int) (hw:∀q,0<=wd q/\wd q < 18446744073709551616) (hk:k<=9223372036854775807) (hA:k=0\/A=some ⟨R,O,none⟩) (x:Int) (hp:0<=x/\x < 18446744073709551616):(0<=x/\x < 18446744073709551616)/\(aR x->aR x\/False)/\(¬aR x->¬aR x\/False)/\True:=by
 have hA':=hA
 rcases hA with hk0 | rfl<;>(try simp only [zb,mY,y9,za])<;>(try simp only [or_false])
 all_goals repeat' (first | (with_reducible refine and_imp.mpr ?_) | (unhygienic intro) | refine And.intro ?_ ?_)
 all_goals try simp only [and_true,true_and,or_true,true_or,or_false,false_or,and_false,false_and,not_true_eq_false,not_false_eq_true]
 all_goals first | trivial | rfl | omega | exact(hw _).1 | exact(hw _).2 | (have:=(hw ‹Nat›);omega) | exact⟨by omega⟩ | (intro h;exact absurd h.out (by omega)) | exact absurd (‹aR x›).out (by omega) | assumption | contradiction | exact absurd ‹aR x› ‹¬aR x›
set_option maxHeartbeats 2000000 in
theorem QP (A:Option Addr) (R O k C:Nat) (wd:Nat->Int) (hw:∀q,0<=wd q/\wd q < 18446744073709551616) (hk:k<=9223372036854775807) (hA:k=0\/A=some ⟨R,O,none⟩) (i j n:Int) (hp:0<=i/\i < n/\0<=j/\j < n/\n<=512/\(k:Int)=n*n):-9223372036854775808<=i*n/\i*n<=9223372036854775807/\-9223372036854775808<=i*n+j/\i*n+j<=9223372036854775807/\0<=i*n+j/\i*n+j+1<=(k:Int)/\1<=eZ A/\1<=eZ (bR A (i*n+j).toNat)/\((jJ (bR A (i*n+j).toNat):Nat):Int)<=(R:Int)/\(R:Int)<=((jJ (bR A (i*n+j).toNat):Nat):Int)/\(O:Int)<=((aW (bR A (i*n+j).toNat):Nat):Int)/\((aW (bR A (i*n+j).toNat):Nat):Int)+1<=((O+k:Nat):Int)/\-9223372036854775808<=j*n/\j*n<=9223372036854775807/\-9223372036854775808<=j*n+i/\j*n+i<=9223372036854775807/\0<=j*n+i/\j*n+i+1<=(k:Int)/\1<=eZ A/\1<=eZ (bR A (j*n+i).toNat)/\((jJ (bR A (j*n+i).toNat):Nat):Int)<=(R:Int)/\(R:Int)<=((jJ (bR A (j*n+i).toNat):Nat):Int)/\(O:Int)<=((aW (bR A (j*n+i).toNat):Nat):Int)/\((aW (bR A (j*n+i).toNat):Nat):Int)+1<=((O+k:Nat):Int)/\(¬wd (aW (bR A (i*n+j).toNat))=wd (aW (bR A (j*n+i).toNat))->(0<=wd (aW (bR A (i*n+j).toNat))/\wd (aW (bR A (i*n+j).toNat)) < 18446744073709551616)/\(∀(x:Int),x=jK (wd (aW (bR A (i*n+j).toNat)))->(x=0->(0<=wd (aW (bR A (j*n+i).toNat))/\wd (aW (bR A (j*n+i).toNat)) < 18446744073709551616)/\(∀(x:Int),x=jK (wd (aW (bR A (j*n+i).toNat)))->(x=0->iX O wd n i j\/False)/\(¬x=0->¬iX O wd n i j\/False))/\True)/\(¬x=0->¬iX O wd n i j\/False))/\True)/\(wd (aW (bR A (i*n+j).toNat))=wd (aW (bR A (j*n+i).toNat))->iX O wd n i j\/False):=by
 have f0:=eT i n n
 have f1:=eT j n n
 have hA':=hA
 rcases hA with hk0 | rfl<;>(try simp only [zb,mY,y9,za])<;>(try simp only [or_false])
 all_goals repeat' (first | (with_reducible refine and_imp.mpr ?_) | (unhygienic intro) | refine And.intro ?_ ?_)
 all_goals try simp only [and_true,true_and,or_true,true_or,or_false,false_or,and_false,false_and,not_true_eq_false,not_false_eq_true]
 all_goals first | trivial | rfl | omega | exact(hw _).1 | exact(hw _).2 | (have:=(hw ‹Nat›);omega) | (have hx:=hw _;omega) | exact⟨.inl (by omega)⟩ | exact⟨.inl ‹_›⟩ | exact⟨.inr ⟨by omega,by omega⟩⟩ | (intro h;have:=h.out;omega) | (have h:=(‹iX O wd n i j›).out;omega)
set_option maxHeartbeats 2000000 in
theorem MB (A:Option Addr) (R O k C:Nat) (wd:Nat->Int) (hw:∀q,0<=wd q/\wd q < 18446744073709551616) (hk:k<=9223372036854775807) (hA:k=0\/A=some ⟨R,O,none⟩):((7000:Int)=7000/\(0:Int)<=0/\0<=(k:Int)/\∀(q:Nat),(q:Int) < 0->aR (wd (O+q)))/\∀(j5 j5:Int),((7000:Int)=7000/\0<=j5/\j5<=(k:Int)/\∀(q:Nat),(q:Int) < j5->aR (wd (O+q)))->(j5 < (k:Int)->0<=j5/\j5+1<=(k:Int)/\1<=eZ A/\1<=eZ (bR A j5.toNat)/\((jJ (bR A j5.toNat):Nat):Int)<=(R:Int)/\(R:Int)<=((jJ (bR A j5.toNat):Nat):Int)/\(O:Int)<=((aW (bR A j5.toNat):Nat):Int)/\((aW (bR A j5.toNat):Nat):Int)+1<=((O+k:Nat):Int)/\(0<=wd (aW (bR A j5.toNat))/\wd (aW (bR A j5.toNat)) < 18446744073709551616)/\(¬aR (wd (aW (bR A j5.toNat)))->((j5= -1/\∀(q:Nat),q < k->aR (wd (O+q)))\/0<=j5/\¬∀(q:Nat),q < k->aR (wd (O+q)))\/False)/\(aR (wd (aW (bR A j5.toNat)))->-9223372036854775808<=j5+1/\j5+(1:Int)<=9223372036854775807/\(k:Int) - (j5+1) < (k:Int) - j5/\0<=(k:Int) - j5/\(7000:Int)=7000/\0<=j5+1/\j5+1<=(k:Int)/\∀(q:Nat),(q:Int) < j5+1->aR (wd (O+q)))/\True)/\(¬j5 < (k:Int)->(((-1:Int)= -1/\∀(q:Nat),q < k->aR (wd (O+q)))\/(0:Int)<= -1/\¬∀(q:Nat),q < k->aR (wd (O+q)))\/False):=by
 have hA':=hA
 rcases hA with hk0 | rfl<;>(try simp only [zb,mY,y9,za])<;>(try simp only [or_false])
 all_goals repeat' (first | (with_reducible refine and_imp.mpr ?_) | (unhygienic intro) | refine And.intro ?_ ?_)
 all_goals try simp only [and_true,true_and,or_true,true_or,or_false,false_or,and_false,false_and,not_true_eq_false,not_false_eq_true]
 all_goals first | trivial | rfl | omega | exact(hw _).1 | exact(hw _).2 | (have:=(hw ‹Nat›);omega) | exact QN (P:=fun q=>aR (wd (O+q))) (by assumption) (by assumption) (by omega) (by omega) | (exact ‹∀q:Nat,(q:Int) < _->aR (wd (O+q))› _ (by omega)) | (refine .inr ⟨by omega,fun h=>?_⟩;exact ‹¬aR _› (h _ (by omega))) | (refine .inl ⟨rfl,fun q hq=>?_⟩;(exact ‹∀q:Nat,(q:Int) < _->aR (wd (O+q))› _ (by omega))) | (refine .inl ⟨by omega,fun q hq=>?_⟩;(exact ‹∀q:Nat,(q:Int) < _->aR (wd (O+q))› _ (by omega))) | (refine .inl (fun q hq=>?_);(exact ‹∀q:Nat,(q:Int) < _->aR (wd (O+q))› _ (by omega)))
set_option maxHeartbeats 2000000 in
theorem O8 (A:Option Addr) (R O k C:Nat) (wd:Nat->Int) (hw:∀q,0<=wd q/\wd q < 18446744073709551616) (hk:k<=9223372036854775807) (hA:k=0\/A=some ⟨R,O,none⟩):(TV.val (Value.slice A k C)=TV.val (Value.slice A k C)/\TV.fn 94 [] []=TV.fn 94 [] [])/\(∀(x:Int),((x= -1/\∀(q:Nat),q < k->aR (wd (O+q)))\/0<=x/\¬∀(q:Nat),q < k->aR (wd (O+q)))->(0<=x->(¬∀(q:Nat),q < k->aR (wd (O+q)))\/False)/\(¬0<=x->(∀(q:Nat),q < k->aR (wd (O+q)))\/False))/\True:=by
 have hA':=hA
 rcases hA with hk0 | rfl<;>(try simp only [zb,mY,y9,za])<;>(try simp only [or_false])
 all_goals repeat' (first | (with_reducible refine and_imp.mpr ?_) | (unhygienic intro) | refine And.intro ?_ ?_)
 all_goals try simp only [and_true,true_and,or_true,true_or,or_false,false_or,and_false,false_and,not_true_eq_false,not_false_eq_true]
 all_goals first | trivial | rfl | omega | exact(hw _).1 | exact(hw _).2 | (have:=(hw ‹Nat›);omega) | (rcases ‹_\/_› with⟨h1,h2⟩ | ⟨h1,h2⟩<;>first | omega | exact h2 _ (by omega) | exact absurd ‹∀q:Nat,q < k->aR (wd (O+q))› h2 | (exfalso;omega))
set_option maxHeartbeats 2000000 in
theorem VK (A:Option Addr) (R O k C:Nat) (wd:Nat->Int) (hw:∀q,0<=wd q/\wd q < 18446744073709551616) (hk:k<=9223372036854775807) (hA:k=0\/A=some ⟨R,O,none⟩) (m n:Int):(¬m < 0->(¬512 < m->(¬n < 0->(¬512 < n->-9223372036854775808<=m*n/\m*n<=9223372036854775807/\(¬¬(k:Int)=m*n->(TV.val (Value.slice A k C)=TV.val (Value.slice A k C)/\TV.fn 94 [] []=TV.fn 94 [] [])/\((¬∀(q:Nat),q < k->aR (wd (O+q)))->((1:Int)=0->(0<=m/\m<=512/\0<=n/\n<=512/\(k:Int)=m*n)/\(∀(q:Nat),q < k->aR (wd (O+q)))/\(∀(q:Nat),q < k->cK (wd (O+q)))/\0=m/\0=n/\0=m*n)/\(0:Int)<=0/\(0:Int)<=262144/\(0:Int)<=1/\(1:Int)<=10\/False)/\((∀(q:Nat),q < k->aR (wd (O+q)))->((7000:Int)=7000/\(0:Int)<=0)/\∀(bO bO pab0 pbb0 pdb0:Int),(7000:Int)=7000/\0<=bO->(bO < m->((7002:Int)=7002/\(0:Int)<=0/\0<=bO/\bO < m)/\∀(t9b2 gI pab2 pbb2 pdb2:Int),(7002:Int)=7002/\0<=gI/\0<=bO/\bO < m->(gI < n->True/\(True->-9223372036854775808<=gI+1/\gI+(1:Int)<=9223372036854775807/\n - (gI+1) < n - gI/\0<=n - gI/\(7002:Int)=7002/\0<=gI+1/\0<=bO/\bO < m)/\True)/\(¬gI < n->-9223372036854775808<=bO+1/\bO+(1:Int)<=9223372036854775807/\m - (bO+1) < m - bO/\0<=m - bO/\(7000:Int)=7000/\0<=bO+1))/\(¬bO < m->((7004:Int)=7004/\(0:Int)<=0/\0<=(k:Int)/\m=m/\n=n/\(0:Int)=0/\∀(q:Nat),(q:Int) < 0->cK (wd (O+q)))/\∀(aX aX pab4 pbb4 pdb4 O4 Mm IU:Int),((7004:Int)=7004/\0<=aX/\aX<=(k:Int)/\O4=m/\Mm=n/\IU=aX/\∀(q:Nat),(q:Int) < aX->cK (wd (O+q)))->(aX < (k:Int)->0<=aX/\aX+1<=(k:Int)/\1<=eZ A/\1<=eZ (bR A aX.toNat)/\((jJ (bR A aX.toNat):Nat):Int)<=(R:Int)/\(R:Int)<=((jJ (bR A aX.toNat):Nat):Int)/\(O:Int)<=((aW (bR A aX.toNat):Nat):Int)/\((aW (bR A aX.toNat):Nat):Int)+1<=((O+k:Nat):Int)/\(0<=wd (aW (bR A aX.toNat))/\wd (aW (bR A aX.toNat)) < 18446744073709551616)/\(cK (wd (aW (bR A aX.toNat)))->0<=wd (aW (bR A aX.toNat))/\wd (aW (bR A aX.toNat))<=18446744073709551615/\IU+(1:Int)<=1073741824/\-9223372036854775808<=aX+1/\aX+(1:Int)<=9223372036854775807/\(k:Int) - (aX+1) < (k:Int) - aX/\0<=(k:Int) - aX/\(7004:Int)=7004/\0<=aX+1/\aX+1<=(k:Int)/\O4=m/\Mm=n/\IU+1=aX+1/\∀(q:Nat),(q:Int) < aX+1->cK (wd (O+q)))/\(¬cK (wd (aW (bR A aX.toNat)))->((2:Int)=0->(0<=m/\m<=512/\0<=n/\n<=512/\(k:Int)=m*n)/\(∀(q:Nat),q < k->aR (wd (O+q)))/\(∀(q:Nat),q < k->cK (wd (O+q)))/\0=m/\0=n/\0=m*n)/\(0:Int)<=0/\(0:Int)<=262144/\(0:Int)<=2/\(2:Int)<=10\/False)/\True)/\(¬aX < (k:Int)->((0:Int)=0->(0<=m/\m<=512/\0<=n/\n<=512/\(k:Int)=m*n)/\(∀(q:Nat),q < k->aR (wd (O+q)))/\(∀(q:Nat),q < k->cK (wd (O+q)))/\O4=m/\Mm=n/\IU=m*n)/\0<=IU/\IU<=262144/\(0:Int)<=0/\(0:Int)<=10\/False)))/\True)/\(¬(k:Int)=m*n->((1:Int)=0->(0<=m/\m<=512/\0<=n/\n<=512/\(k:Int)=m*n)/\(∀(q:Nat),q < k->aR (wd (O+q)))/\(∀(q:Nat),q < k->cK (wd (O+q)))/\0=m/\0=n/\0=m*n)/\(0:Int)<=0/\(0:Int)<=262144/\(0:Int)<=1/\(1:Int)<=10\/False))/\(512 < n->((1:Int)=0->(0<=m/\m<=512/\0<=n/\n<=512/\(k:Int)=m*n)/\(∀(q:Nat),q < k->aR (wd (O+q)))/\(∀(q:Nat),q < k->cK (wd (O+q)))/\0=m/\0=n/\0=m*n)/\(0:Int)<=0/\(0:Int)<=262144/\(0:Int)<=1/\(1:Int)<=10\/False))/\(n < 0->((1:Int)=0->(0<=m/\m<=512/\0<=n/\n<=512/\(k:Int)=m*n)/\(∀(q:Nat),q < k->aR (wd (O+q)))/\(∀(q:Nat),q < k->cK (wd (O+q)))/\0=m/\0=n/\0=m*n)/\(0:Int)<=0/\(0:Int)<=262144/\(0:Int)<=1/\(1:Int)<=10\/False))/\(512 < m->((1:Int)=0->(0<=m/\m<=512/\0<=n/\n<=512/\(k:Int)=m*n)/\(∀(q:Nat),q < k->aR (wd (O+q)))/\(∀(q:Nat),q < k->cK (wd (O+q)))/\0=m/\0=n/\0=m*n)/\(0:Int)<=0/\(0:Int)<=262144/\(0:Int)<=1/\(1:Int)<=10\/False))/\(m < 0->((1:Int)=0->(0<=m/\m<=512/\0<=n/\n<=512/\(k:Int)=m*n)/\(∀(q:Nat),q < k->aR (wd (O+q)))/\(∀(q:Nat),q < k->cK (wd (O+q)))/\0=m/\0=n/\0=m*n)/\(0:Int)<=0/\(0:Int)<=262144/\(0:Int)<=1/\(1:Int)<=10\/False):=by
 have f0:=bf m n
 have hA':=hA
 rcases hA with hk0 | rfl<;>(try simp only [zb,mY,y9,za])<;>(try simp only [or_false])
 all_goals repeat' (first | (with_reducible refine and_imp.mpr ?_) | (unhygienic intro) | refine And.intro ?_ ?_)
 all_goals try simp only [and_true,true_and,or_true,true_or,or_false,false_or,and_false,false_and,not_true_eq_false,not_false_eq_true]
 all_goals first | trivial | rfl | omega | exact(hw _).1 | exact(hw _).2 | (have:=(hw ‹Nat›);omega) | exact(hw _).1 | exact(hw _).2 | (have hx:=hw _;omega) | exact QN (P:=fun q=>cK (wd (O+q))) (by assumption) (by assumption) (by omega) (by omega) | (exact ‹∀q:Nat,(q:Int) < _->cK (wd (O+q))› _ (by omega)) | assumption | exact row_of (by assumption) (by assumption) (by omega) (by omega) | exact R8 (by assumption) (by assumption) (by assumption) (by omega) (by omega) (by omega) (by omega) | (exact ‹∀q:Nat,q < k->aR (wd (O+q))› _ (by omega)) | exact Int.le_of_lt_add_one (hw _).2 | (exact ‹∀i j:Int,0<=i->i < _->0<=j->j < n->iX O wd n i j› _ _ (by omega) (by omega) (by omega) (by omega)) | (exfalso;omega) | (exact absurd ‹∀q:Nat,q < k->aR (wd (O+q))› ‹_›)
set_option maxHeartbeats 2000000 in
theorem VL (A:Option Addr) (R O k C:Nat) (wd:Nat->Int) (hw:∀q,0<=wd q/\wd q < 18446744073709551616) (hk:k<=9223372036854775807) (hA:k=0\/A=some ⟨R,O,none⟩) (m n:Int) (hp:m=n):(¬m < 0->(¬512 < m->(¬n < 0->(¬512 < n->-9223372036854775808<=m*n/\m*n<=9223372036854775807/\(¬¬(k:Int)=m*n->(TV.val (Value.slice A k C)=TV.val (Value.slice A k C)/\TV.fn 94 [] []=TV.fn 94 [] [])/\((¬∀(q:Nat),q < k->aR (wd (O+q)))->((1:Int)=0->(0<=m/\m<=512/\0<=n/\n<=512/\(k:Int)=m*n)/\(∀(q:Nat),q < k->aR (wd (O+q)))/\(∀(i j:Int),0<=i->i < m->0<=j->j < n->iX O wd n i j)/\(∀(q:Nat),q < k->cK (wd (O+q)))/\0=m/\0=n/\0=m*n)/\(0:Int)<=0/\(0:Int)<=262144/\(0:Int)<=1/\(1:Int)<=10\/False)/\((∀(q:Nat),q < k->aR (wd (O+q)))->((7000:Int)=7000/\(0:Int)<=0/\∀(i j:Int),0<=i->i < 0->0<=j->j < n->iX O wd n i j)/\∀(bO bO pab0 pbb0 pdb0:Int),((7000:Int)=7000/\0<=bO/\∀(i j:Int),0<=i->i < bO->0<=j->j < n->iX O wd n i j)->(bO < m->((7002:Int)=7002/\(0:Int)<=0/\0<=bO/\bO < m/\∀(j:Int),0<=j->j < 0->iX O wd n bO j)/\∀(t9b2 gI pab2 pbb2 pdb2:Int),((7002:Int)=7002/\0<=gI/\0<=bO/\bO < m/\∀(j:Int),0<=j->j < gI->iX O wd n bO j)->(gI < n->(TV.p [TV.val (Value.slice A k C)]=TV.p [TV.val (Value.slice A k C)]/\0<=bO/\bO < n/\0<=gI/\gI < n/\n<=512/\(k:Int)=n*n)/\(iX O wd n bO gI->-9223372036854775808<=gI+1/\gI+(1:Int)<=9223372036854775807/\n - (gI+1) < n - gI/\0<=n - gI/\(7002:Int)=7002/\0<=gI+1/\0<=bO/\bO < m/\∀(j:Int),0<=j->j < gI+1->iX O wd n bO j)/\(¬iX O wd n bO gI->((1:Int)=0->(0<=m/\m<=512/\0<=n/\n<=512/\(k:Int)=m*n)/\(∀(q:Nat),q < k->aR (wd (O+q)))/\(∀(i j:Int),0<=i->i < m->0<=j->j < n->iX O wd n i j)/\(∀(q:Nat),q < k->cK (wd (O+q)))/\0=m/\0=n/\0=m*n)/\(0:Int)<=0/\(0:Int)<=262144/\(0:Int)<=1/\(1:Int)<=10\/False)/\True)/\(¬gI < n->-9223372036854775808<=bO+1/\bO+(1:Int)<=9223372036854775807/\m - (bO+1) < m - bO/\0<=m - bO/\(7000:Int)=7000/\0<=bO+1/\∀(i j:Int),0<=i->i < bO+1->0<=j->j < n->iX O wd n i j))/\(¬bO < m->((7004:Int)=7004/\(0:Int)<=0/\0<=(k:Int)/\m=m/\n=n/\(0:Int)=0/\∀(q:Nat),(q:Int) < 0->cK (wd (O+q)))/\∀(aX aX pab4 pbb4 pdb4 O4 Mm IU:Int),((7004:Int)=7004/\0<=aX/\aX<=(k:Int)/\O4=m/\Mm=n/\IU=aX/\∀(q:Nat),(q:Int) < aX->cK (wd (O+q)))->(aX < (k:Int)->0<=aX/\aX+1<=(k:Int)/\1<=eZ A/\1<=eZ (bR A aX.toNat)/\((jJ (bR A aX.toNat):Nat):Int)<=(R:Int)/\(R:Int)<=((jJ (bR A aX.toNat):Nat):Int)/\(O:Int)<=((aW (bR A aX.toNat):Nat):Int)/\((aW (bR A aX.toNat):Nat):Int)+1<=((O+k:Nat):Int)/\(0<=wd (aW (bR A aX.toNat))/\wd (aW (bR A aX.toNat)) < 18446744073709551616)/\(cK (wd (aW (bR A aX.toNat)))->0<=wd (aW (bR A aX.toNat))/\wd (aW (bR A aX.toNat))<=18446744073709551615/\IU+(1:Int)<=1073741824/\-9223372036854775808<=aX+1/\aX+(1:Int)<=9223372036854775807/\(k:Int) - (aX+1) < (k:Int) - aX/\0<=(k:Int) - aX/\(7004:Int)=7004/\0<=aX+1/\aX+1<=(k:Int)/\O4=m/\Mm=n/\IU+1=aX+1/\∀(q:Nat),(q:Int) < aX+1->cK (wd (O+q)))/\(¬cK (wd (aW (bR A aX.toNat)))->((2:Int)=0->(0<=m/\m<=512/\0<=n/\n<=512/\(k:Int)=m*n)/\(∀(q:Nat),q < k->aR (wd (O+q)))/\(∀(i j:Int),0<=i->i < m->0<=j->j < n->iX O wd n i j)/\(∀(q:Nat),q < k->cK (wd (O+q)))/\0=m/\0=n/\0=m*n)/\(0:Int)<=0/\(0:Int)<=262144/\(0:Int)<=2/\(2:Int)<=10\/False)/\True)/\(¬aX < (k:Int)->((0:Int)=0->(0<=m/\m<=512/\0<=n/\n<=512/\(k:Int)=m*n)/\(∀(q:Nat),q < k->aR (wd (O+q)))/\(∀(i j:Int),0<=i->i < m->0<=j->j < n->iX O wd n i j)/\(∀(q:Nat),q < k->cK (wd (O+q)))/\O4=m/\Mm=n/\IU=m*n)/\0<=IU/\IU<=262144/\(0:Int)<=0/\(0:Int)<=10\/False)))/\True)/\(¬(k:Int)=m*n->((1:Int)=0->(0<=m/\m<=512/\0<=n/\n<=512/\(k:Int)=m*n)/\(∀(q:Nat),q < k->aR (wd (O+q)))/\(∀(i j:Int),0<=i->i < m->0<=j->j < n->iX O wd n i j)/\(∀(q:Nat),q < k->cK (wd (O+q)))/\0=m/\0=n/\0=m*n)/\(0:Int)<=0/\(0:Int)<=262144/\(0:Int)<=1/\(1:Int)<=10\/False))/\(512 < n->((1:Int)=0->(0<=m/\m<=512/\0<=n/\n<=512/\(k:Int)=m*n)/\(∀(q:Nat),q < k->aR (wd (O+q)))/\(∀(i j:Int),0<=i->i < m->0<=j->j < n->iX O wd n i j)/\(∀(q:Nat),q < k->cK (wd (O+q)))/\0=m/\0=n/\0=m*n)/\(0:Int)<=0/\(0:Int)<=262144/\(0:Int)<=1/\(1:Int)<=10\/False))/\(n < 0->((1:Int)=0->(0<=m/\m<=512/\0<=n/\n<=512/\(k:Int)=m*n)/\(∀(q:Nat),q < k->aR (wd (O+q)))/\(∀(i j:Int),0<=i->i < m->0<=j->j < n->iX O wd n i j)/\(∀(q:Nat),q < k->cK (wd (O+q)))/\0=m/\0=n/\0=m*n)/\(0:Int)<=0/\(0:Int)<=262144/\(0:Int)<=1/\(1:Int)<=10\/False))/\(512 < m->((1:Int)=0->(0<=m/\m<=512/\0<=n/\n<=512/\(k:Int)=m*n)/\(∀(q:Nat),q < k->aR (wd (O+q)))/\(∀(i j:Int),0<=i->i < m->0<=j->j < n->iX O wd n i j)/\(∀(q:Nat),q < k->cK (wd (O+q)))/\0=m/\0=n/\0=m*n)/\(0:Int)<=0/\(0:Int)<=262144/\(0:Int)<=1/\(1:Int)<=10\/False))/\(m < 0->((1:Int)=0->(0<=m/\m<=512/\0<=n/\n<=512/\(k:Int)=m*n)/\(∀(q:Nat),q < k->aR (wd (O+q)))/\(∀(i j:Int),0<=i->i < m->0<=j->j < n->iX O wd n i j)/\(∀(q:Nat),q < k->cK (wd (O+q)))/\0=m/\0=n/\0=m*n)/\(0:Int)<=0/\(0:Int)<=262144/\(0:Int)<=1/\(1:Int)<=10\/False):=by
 have f0:=bf m n
 have hA':=hA
 rcases hA with hk0 | rfl<;>(try simp only [zb,mY,y9,za])<;>(try simp only [or_false])
 all_goals repeat' (first | (with_reducible refine and_imp.mpr ?_) | (unhygienic intro) | refine And.intro ?_ ?_)
 all_goals try simp only [and_true,true_and,or_true,true_or,or_false,false_or,and_false,false_and,not_true_eq_false,not_false_eq_true]
 all_goals first | trivial | rfl | omega | exact(hw _).1 | exact(hw _).2 | (have:=(hw ‹Nat›);omega) | exact(hw _).1 | exact(hw _).2 | (have hx:=hw _;omega) | exact QN (P:=fun q=>cK (wd (O+q))) (by assumption) (by assumption) (by omega) (by omega) | (exact ‹∀q:Nat,(q:Int) < _->cK (wd (O+q))› _ (by omega)) | assumption | exact row_of (by assumption) (by assumption) (by omega) (by omega) | exact R8 (by assumption) (by assumption) (by assumption) (by omega) (by omega) (by omega) (by omega) | (exact ‹∀q:Nat,q < k->aR (wd (O+q))› _ (by omega)) | exact Int.le_of_lt_add_one (hw _).2 | (subst hp;omega) | (exact ‹∀i j:Int,0<=i->i < _->0<=j->j < n->iX O wd n i j› _ _ (by omega) (by omega) (by omega) (by omega)) | (exfalso;omega) | (exact absurd ‹∀q:Nat,q < k->aR (wd (O+q))› ‹_›)
set_option maxHeartbeats 2000000 in
theorem Tv (A:Option Addr) (R O k C:Nat) (wd:Nat->Int) (hw:∀q,0<=wd q/\wd q < 18446744073709551616) (hk:k<=9223372036854775807) (hA:k=0\/A=some ⟨R,O,none⟩) (n:Int):(TV.val (Value.slice A k C)=TV.val (Value.slice A k C)/\([]:List TV)=[]/\[TV.p [TV.val (Value.slice A k C)],TV.p [TV.i IntKind.i64 (some n)]]=[TV.p [TV.val (Value.slice A k C)],TV.p [TV.i IntKind.i64 (some n)]]/\n=n)/\(∀(x lW kN nk:Int),(nk=0->(0<=n/\n<=512/\0<=n/\n<=512/\(k:Int)=n*n)/\(∀(q:Nat),q < k->aR (wd (O+q)))/\(∀(i j:Int),0<=i->i < n->0<=j->j < n->iX O wd n i j)/\(∀(q:Nat),q < k->cK (wd (O+q)))/\x=n/\lW=n/\kN=n*n)/\0<=kN/\kN<=262144/\0<=nk/\nk<=10->(nk=0->QW O k wd 1 n n/\x=n/\lW=n/\kN=n*n/\0<=n/\n<=512/\0<=n/\n<=512)/\0<=kN/\kN<=262144/\0<=nk/\nk<=10\/False)/\True:=by
 have hA':=hA
 rcases hA with hk0 | rfl<;>(try simp only [zb,mY,y9,za])<;>(try simp only [or_false])
 all_goals repeat' (first | (with_reducible refine and_imp.mpr ?_) | (unhygienic intro) | refine And.intro ?_ ?_)
 all_goals try simp only [and_true,true_and,or_true,true_or,or_false,false_or,and_false,false_and,not_true_eq_false,not_false_eq_true]
 all_goals first | trivial | rfl | omega | exact(hw _).1 | exact(hw _).2 | (have:=(hw ‹Nat›);omega) | (have hq:=‹(_:Int)=0->_› (by omega);obtain⟨h1,h2,h3,h4,h5⟩:=hq;first | omega | exact⟨h1,h2,fun _=>h3,h4⟩)
set_option maxHeartbeats 2000000 in
theorem vx_Any (A:Option Addr) (R O k C:Nat) (wd:Nat->Int) (hw:∀q,0<=wd q/\wd q < 18446744073709551616) (hk:k<=9223372036854775807) (hA:k=0\/A=some ⟨R,O,none⟩) (m n:Int):(TV.val (Value.slice A k C)=TV.val (Value.slice A k C)/\([]:List TV)=[]/\([]:List TV)=[])/\(∀(x lW kN nk:Int),(nk=0->(0<=m/\m<=512/\0<=n/\n<=512/\(k:Int)=m*n)/\(∀(q:Nat),q < k->aR (wd (O+q)))/\(∀(q:Nat),q < k->cK (wd (O+q)))/\x=m/\lW=n/\kN=m*n)/\0<=kN/\kN<=262144/\0<=nk/\nk<=10->(nk=0->QW O k wd 0 m n/\x=m/\lW=n/\kN=m*n/\0<=m/\m<=512/\0<=n/\n<=512)/\0<=kN/\kN<=262144/\0<=nk/\nk<=10\/False)/\True:=by
 have hA':=hA
 rcases hA with hk0 | rfl<;>(try simp only [zb,mY,y9,za])<;>(try simp only [or_false])
 all_goals repeat' (first | (with_reducible refine and_imp.mpr ?_) | (unhygienic intro) | refine And.intro ?_ ?_)
 all_goals try simp only [and_true,true_and,or_true,true_or,or_false,false_or,and_false,false_and,not_true_eq_false,not_false_eq_true]
 all_goals first | trivial | rfl | omega | exact(hw _).1 | exact(hw _).2 | (have:=(hw ‹Nat›);omega) | (have hq:=‹(_:Int)=0->_› (by omega);obtain⟨h1,h2,h3,h4⟩:=hq;first | omega | exact⟨h1,h2,fun h=>(by omega),h3⟩)
set_option maxHeartbeats 2000000 in
theorem VM (A:Option Addr) (R O k C:Nat) (wd:Nat->Int) (hw:∀q,0<=wd q/\wd q < 18446744073709551616) (hk:k<=9223372036854775807) (hA:k=0\/A=some ⟨R,O,none⟩) (m n:Int) (hp:m=n):(¬m < 0->(¬512 < m->(¬n < 0->(¬512 < n->-9223372036854775808<=m*n/\m*n<=9223372036854775807/\(¬(k:Int)=m*n->(QW O k wd 1 m n->(1:Int)=0)\/False)/\(¬¬(k:Int)=m*n->((7000:Int)=7000/\(0:Int)<=0)/\∀(fD fD:Int),(7000:Int)=7000/\0<=fD->(fD < (k:Int)->0<=fD/\fD+1<=(k:Int)/\1<=eZ A/\1<=eZ (bR A fD.toNat)/\((jJ (bR A fD.toNat):Nat):Int)<=(R:Int)/\(R:Int)<=((jJ (bR A fD.toNat):Nat):Int)/\(O:Int)<=((aW (bR A fD.toNat):Nat):Int)/\((aW (bR A fD.toNat):Nat):Int)+1<=((O+k:Nat):Int)/\(0<=wd (aW (bR A fD.toNat))/\wd (aW (bR A fD.toNat)) < 18446744073709551616)/\(aR (wd (aW (bR A fD.toNat)))->-9223372036854775808<=fD+1/\fD+(1:Int)<=9223372036854775807/\(k:Int) - (fD+1) < (k:Int) - fD/\0<=(k:Int) - fD/\(7000:Int)=7000/\0<=fD+1)/\(¬aR (wd (aW (bR A fD.toNat)))->(QW O k wd 1 m n->(1:Int)=0)\/False)/\True)/\(¬fD < (k:Int)->((7002:Int)=7002/\(0:Int)<=0)/\∀(aY aY:Int),(7002:Int)=7002/\0<=aY->(aY < m->((7004:Int)=7004/\(0:Int)<=0/\0<=aY/\aY < m)/\∀(t8b4 bF:Int),(7004:Int)=7004/\0<=bF/\0<=aY/\aY < m->(bF < aY->-9223372036854775808<=aY*n/\aY*n<=9223372036854775807/\-9223372036854775808<=aY*n+bF/\aY*n+bF<=9223372036854775807/\0<=aY*n+bF/\aY*n+bF+1<=(k:Int)/\1<=eZ A/\1<=eZ (bR A (aY*n+bF).toNat)/\((jJ (bR A (aY*n+bF).toNat):Nat):Int)<=(R:Int)/\(R:Int)<=((jJ (bR A (aY*n+bF).toNat):Nat):Int)/\(O:Int)<=((aW (bR A (aY*n+bF).toNat):Nat):Int)/\((aW (bR A (aY*n+bF).toNat):Nat):Int)+1<=((O+k:Nat):Int)/\-9223372036854775808<=bF*n/\bF*n<=9223372036854775807/\-9223372036854775808<=bF*n+aY/\bF*n+aY<=9223372036854775807/\0<=bF*n+aY/\bF*n+aY+1<=(k:Int)/\1<=eZ A/\1<=eZ (bR A (bF*n+aY).toNat)/\((jJ (bR A (bF*n+aY).toNat):Nat):Int)<=(R:Int)/\(R:Int)<=((jJ (bR A (bF*n+aY).toNat):Nat):Int)/\(O:Int)<=((aW (bR A (bF*n+aY).toNat):Nat):Int)/\((aW (bR A (bF*n+aY).toNat):Nat):Int)+1<=((O+k:Nat):Int)/\(¬wd (aW (bR A (aY*n+bF).toNat))=wd (aW (bR A (bF*n+aY).toNat))->(1:Int)<=1/\(1:Int)<=1/\(¬¬wd (aW (bR A (aY*n+bF).toNat))*2 % (18446744073709551616:Int)=0->(1:Int)<=1/\(1:Int)<=1/\(¬wd (aW (bR A (bF*n+aY).toNat))*2 % (18446744073709551616:Int)=0->(QW O k wd 1 m n->(1:Int)=0)\/False)/\(¬¬wd (aW (bR A (bF*n+aY).toNat))*2 % (18446744073709551616:Int)=0->-9223372036854775808<=bF+1/\bF+(1:Int)<=9223372036854775807/\aY - (bF+1) < aY - bF/\0<=aY - bF/\(7004:Int)=7004/\0<=bF+1/\0<=aY/\aY < m))/\(¬wd (aW (bR A (aY*n+bF).toNat))*2 % (18446744073709551616:Int)=0->(QW O k wd 1 m n->(1:Int)=0)\/False))/\(¬¬wd (aW (bR A (aY*n+bF).toNat))=wd (aW (bR A (bF*n+aY).toNat))->-9223372036854775808<=bF+1/\bF+(1:Int)<=9223372036854775807/\aY - (bF+1) < aY - bF/\0<=aY - bF/\(7004:Int)=7004/\0<=bF+1/\0<=aY/\aY < m))/\(¬bF < aY->-9223372036854775808<=aY+1/\aY+(1:Int)<=9223372036854775807/\m - (aY+1) < m - aY/\0<=m - aY/\(7002:Int)=7002/\0<=aY+1))/\(¬aY < m->((7006:Int)=7006/\(0:Int)<=0)/\∀(aM aM:Int),(7006:Int)=7006/\0<=aM->(aM < (k:Int)->0<=aM/\aM+1<=(k:Int)/\1<=eZ A/\1<=eZ (bR A aM.toNat)/\((jJ (bR A aM.toNat):Nat):Int)<=(R:Int)/\(R:Int)<=((jJ (bR A aM.toNat):Nat):Int)/\(O:Int)<=((aW (bR A aM.toNat):Nat):Int)/\((aW (bR A aM.toNat):Nat):Int)+1<=((O+k:Nat):Int)/\(0<=wd (aW (bR A aM.toNat))/\wd (aW (bR A aM.toNat)) < 18446744073709551616)/\(aR (wd (aW (bR A aM.toNat)))/\cK (wd (aW (bR A aM.toNat)))->-9223372036854775808<=aM+1/\aM+(1:Int)<=9223372036854775807/\(k:Int) - (aM+1) < (k:Int) - aM/\0<=(k:Int) - aM/\(7006:Int)=7006/\0<=aM+1)/\(¬(aR (wd (aW (bR A aM.toNat)))/\cK (wd (aW (bR A aM.toNat))))->(QW O k wd 1 m n->(2:Int)=0)\/False)/\True)/\(¬aM < (k:Int)->(QW O k wd 1 m n->(0:Int)=0)\/False)))))/\(512 < n->(QW O k wd 1 m n->(1:Int)=0)\/False))/\(n < 0->(QW O k wd 1 m n->(1:Int)=0)\/False))/\(512 < m->(QW O k wd 1 m n->(1:Int)=0)\/False))/\(m < 0->(QW O k wd 1 m n->(1:Int)=0)\/False):=by
 have f0:=bf m n
 have hA':=hA
 rcases hA with hk0 | rfl<;>(try simp only [zb,mY,y9,za])<;>(try simp only [or_false])
 all_goals repeat' (first | (with_reducible refine and_imp.mpr ?_) | (unhygienic intro) | refine And.intro ?_ ?_)
 all_goals try simp only [and_true,true_and,or_true,true_or,or_false,false_or,and_false,false_and,not_true_eq_false,not_false_eq_true]
 all_goals first | trivial | rfl | omega | exact(hw _).1 | exact(hw _).2 | (have:=(hw ‹Nat›);omega) | (have g0:=eT aY_1 m n (by omega) (by omega) (by omega);have g1:=eT bF m n (by omega) (by omega) (by omega);omega) | exact Int.le_of_lt_add_one (hw _).2 | (exfalso;have hq:=(‹QW O k wd _ m n›).out;obtain⟨⟨a1,a2,a3,a4,a5⟩,b,s,r⟩:=hq;first | omega | exact ‹¬aR _› (b _ (by omega)) | exact ‹¬(aR _/\cK _)› ⟨b _ (by omega),r _ (by omega)⟩ | (have s1:=(s rfl aY_1 bF (by omega) (by omega) (by omega) (by omega)).out;simp only [jK] at s1;rcases s1 with s1 | ⟨s1,s2⟩<;>omega))
set_option maxHeartbeats 2000000 in
theorem VN (A:Option Addr) (R O k C:Nat) (wd:Nat->Int) (hw:∀q,0<=wd q/\wd q < 18446744073709551616) (hk:k<=9223372036854775807) (hA:k=0\/A=some ⟨R,O,none⟩) (m n:Int):(¬m < 0->(¬512 < m->(¬n < 0->(¬512 < n->-9223372036854775808<=m*n/\m*n<=9223372036854775807/\(¬(k:Int)=m*n->(QW O k wd 0 m n->(1:Int)=0)\/False)/\(¬¬(k:Int)=m*n->((7000:Int)=7000/\(0:Int)<=0)/\∀(fD fD:Int),(7000:Int)=7000/\0<=fD->(fD < (k:Int)->0<=fD/\fD+1<=(k:Int)/\1<=eZ A/\1<=eZ (bR A fD.toNat)/\((jJ (bR A fD.toNat):Nat):Int)<=(R:Int)/\(R:Int)<=((jJ (bR A fD.toNat):Nat):Int)/\(O:Int)<=((aW (bR A fD.toNat):Nat):Int)/\((aW (bR A fD.toNat):Nat):Int)+1<=((O+k:Nat):Int)/\(0<=wd (aW (bR A fD.toNat))/\wd (aW (bR A fD.toNat)) < 18446744073709551616)/\(aR (wd (aW (bR A fD.toNat)))->-9223372036854775808<=fD+1/\fD+(1:Int)<=9223372036854775807/\(k:Int) - (fD+1) < (k:Int) - fD/\0<=(k:Int) - fD/\(7000:Int)=7000/\0<=fD+1)/\(¬aR (wd (aW (bR A fD.toNat)))->(QW O k wd 0 m n->(1:Int)=0)\/False)/\True)/\(¬fD < (k:Int)->((7002:Int)=7002/\(0:Int)<=0)/\∀(aY aY:Int),(7002:Int)=7002/\0<=aY->(aY < m->((7006:Int)=7006/\(0:Int)<=0)/\∀(aM aM:Int),(7006:Int)=7006/\0<=aM->(aM < (k:Int)->0<=aM/\aM+1<=(k:Int)/\1<=eZ A/\1<=eZ (bR A aM.toNat)/\((jJ (bR A aM.toNat):Nat):Int)<=(R:Int)/\(R:Int)<=((jJ (bR A aM.toNat):Nat):Int)/\(O:Int)<=((aW (bR A aM.toNat):Nat):Int)/\((aW (bR A aM.toNat):Nat):Int)+1<=((O+k:Nat):Int)/\(0<=wd (aW (bR A aM.toNat))/\wd (aW (bR A aM.toNat)) < 18446744073709551616)/\(aR (wd (aW (bR A aM.toNat)))/\cK (wd (aW (bR A aM.toNat)))->-9223372036854775808<=aM+1/\aM+(1:Int)<=9223372036854775807/\(k:Int) - (aM+1) < (k:Int) - aM/\0<=(k:Int) - aM/\(7006:Int)=7006/\0<=aM+1)/\(¬(aR (wd (aW (bR A aM.toNat)))/\cK (wd (aW (bR A aM.toNat))))->(QW O k wd 0 m n->(2:Int)=0)\/False)/\True)/\(¬aM < (k:Int)->(QW O k wd 0 m n->(0:Int)=0)\/False))/\(¬aY < m->((7006:Int)=7006/\(0:Int)<=0)/\∀(aM aM:Int),(7006:Int)=7006/\0<=aM->(aM < (k:Int)->0<=aM/\aM+1<=(k:Int)/\1<=eZ A/\1<=eZ (bR A aM.toNat)/\((jJ (bR A aM.toNat):Nat):Int)<=(R:Int)/\(R:Int)<=((jJ (bR A aM.toNat):Nat):Int)/\(O:Int)<=((aW (bR A aM.toNat):Nat):Int)/\((aW (bR A aM.toNat):Nat):Int)+1<=((O+k:Nat):Int)/\(0<=wd (aW (bR A aM.toNat))/\wd (aW (bR A aM.toNat)) < 18446744073709551616)/\(aR (wd (aW (bR A aM.toNat)))/\cK (wd (aW (bR A aM.toNat)))->-9223372036854775808<=aM+1/\aM+(1:Int)<=9223372036854775807/\(k:Int) - (aM+1) < (k:Int) - aM/\0<=(k:Int) - aM/\(7006:Int)=7006/\0<=aM+1)/\(¬(aR (wd (aW (bR A aM.toNat)))/\cK (wd (aW (bR A aM.toNat))))->(QW O k wd 0 m n->(2:Int)=0)\/False)/\True)/\(¬aM < (k:Int)->(QW O k wd 0 m n->(0:Int)=0)\/False)))))/\(512 < n->(QW O k wd 0 m n->(1:Int)=0)\/False))/\(n < 0->(QW O k wd 0 m n->(1:Int)=0)\/False))/\(512 < m->(QW O k wd 0 m n->(1:Int)=0)\/False))/\(m < 0->(QW O k wd 0 m n->(1:Int)=0)\/False):=by
 have f0:=bf m n
 have hA':=hA
 rcases hA with hk0 | rfl<;>(try simp only [zb,mY,y9,za])<;>(try simp only [or_false])
 all_goals repeat' (first | (with_reducible refine and_imp.mpr ?_) | (unhygienic intro) | refine And.intro ?_ ?_)
 all_goals try simp only [and_true,true_and,or_true,true_or,or_false,false_or,and_false,false_and,not_true_eq_false,not_false_eq_true]
 all_goals first | trivial | rfl | omega | exact(hw _).1 | exact(hw _).2 | (have:=(hw ‹Nat›);omega) | (have g0:=eT aY_1 m n (by omega) (by omega) (by omega);have g1:=eT bF m n (by omega) (by omega) (by omega);omega) | exact Int.le_of_lt_add_one (hw _).2 | (exfalso;have hq:=(‹QW O k wd _ m n›).out;obtain⟨⟨a1,a2,a3,a4,a5⟩,b,s,r⟩:=hq;first | omega | exact ‹¬aR _› (b _ (by omega)) | exact ‹¬(aR _/\cK _)› ⟨b _ (by omega),r _ (by omega)⟩ | (have s1:=(s rfl aY_1 bF (by omega) (by omega) (by omega) (by omega)).out;simp only [jK] at s1;rcases s1 with s1 | ⟨s1,s2⟩<;>omega))
end Go.Proofs.YtgledbghdhjgkaaGreatDoor
namespace Go.TM
open Go
theorem Bw (y:Nat) (hy:y < 9218868437227405312):Ieee.double.read y=if y < 4503599627370496 then .number false y (-1074) else .number false (4503599627370496+y % 4503599627370496) (-1074+((y / 4503599627370496 - 1:Nat):Int)):=by
 have h1:(y / 9223372036854775808 % 2==1)=false:=by
  have:y / 9223372036854775808=0:=by omega
  rw [this];rfl
 have h2:y % 9223372036854775808=y:=Nat.mod_eq_of_lt (by omega)
 unfold Ieee.Format.read
 show(if y % 9223372036854775808 < 4503599627370496 then Ieee.Datum.number (y / 9223372036854775808 % 2==1) (y % 9223372036854775808) (-1074) else if y % 9223372036854775808 < 9218868437227405312 then Ieee.Datum.number (y / 9223372036854775808 % 2==1) (4503599627370496+y % 9223372036854775808 % 4503599627370496) (-1074+((y % 9223372036854775808 / 4503599627370496 - 1:Nat):Int)) else _)=_
 rw [h1,h2,if_pos hy]
theorem QQ {a b:Int} {c d:Nat} (h1:a < b↔c < d) (h2:a=b↔c=d):compare a b=compare c d:=by
 by_cases q:c < d
 ·have:=h1.2 q
  rw [Int.compare_eq_lt.2 this,Nat.compare_eq_lt.2 q]
 ·by_cases e:c=d
  ·rw [Int.compare_eq_eq.2 (h2.2 e),Nat.compare_eq_eq.2 e]
  ·have q1:d < c:=by omega
   have q2:b < a:=by
    have n1:¬a < b:=fun h=>q (h1.1 h)
    have n2:¬a=b:=fun h=>e (h2.1 h)
    omega
   rw [Int.compare_eq_gt.2 q2,Nat.compare_eq_gt.2 q1]
theorem sg (a k:Nat):Ieee.signed false a k=((a*2 ^ k:Nat):Int):=by
 unfold Ieee.signed
 rw [if_neg (by simp),Nat.shiftLeft_eq]
theorem VO {k:Nat} (h:1<=k):2<=2 ^ k:=by
 obtain⟨j,rfl⟩:∃j,k=j+1:=⟨k - 1,by omega⟩
 have:1<=2 ^ j:=Nat.one_le_two_pow
 rw [Nat.pow_succ];omega
theorem KP (y E:Nat) (hy:y < 9218868437227405312) (h1:1<=E) (h2:E < 2047):FloatKind.f64.format.order y (E*4503599627370496)=some (compare y (E*4503599627370496)):=by
 show(Ieee.double.read y).order (Ieee.double.read (E*4503599627370496))=_
 have hc:E*4503599627370496 < 9218868437227405312:=by omega
 rw [Bw y hy,Bw _ hc]
 have e1:¬E*4503599627370496 < 4503599627370496:=by omega
 rw [if_neg e1]
 have e2:E*4503599627370496 % 4503599627370496=0:=by omega
 have e3:E*4503599627370496 / 4503599627370496=E:=by omega
 rw [e2,e3]
 have key:∀(m k:Nat),(k<=E - 1->(m*2 ^ 0 < 4503599627370496*2 ^ (E - 1 - k)↔y < E*4503599627370496)/\(m*2 ^ 0=4503599627370496*2 ^ (E - 1 - k)↔y=E*4503599627370496))->(E - 1 < k->(m*2 ^ (k - (E - 1)) < 4503599627370496*2 ^ 0↔y < E*4503599627370496)/\(m*2 ^ (k - (E - 1))=4503599627370496*2 ^ 0↔y=E*4503599627370496))->
   (Ieee.Datum.number false m (-1074+(k:Int))).order (Ieee.Datum.number false (4503599627370496+0) (-1074+((E - 1:Nat):Int)))=some (compare y (E*4503599627370496)):=by
  intro m k ha hb
  show some (compare (Ieee.signed false m ((-1074+(k:Int)) - min (-1074+(k:Int)) (-1074+((E - 1:Nat):Int))).toNat) (Ieee.signed false (4503599627370496+0) ((-1074+((E - 1:Nat):Int)) - min (-1074+(k:Int)) (-1074+((E - 1:Nat):Int))).toNat))=_
  congr 1
  by_cases hk:k<=E - 1
  ·have t1:((-1074+(k:Int)) - min (-1074+(k:Int)) (-1074+((E - 1:Nat):Int))).toNat=0:=by omega
   have t2:((-1074+((E - 1:Nat):Int)) - min (-1074+(k:Int)) (-1074+((E - 1:Nat):Int))).toNat=E - 1 - k:=by omega
   rw [t1,t2]
   obtain⟨q1,q2⟩:=ha hk
   apply QQ
   ·rw [<- q1,sg,sg];exact Int.ofNat_lt
   ·rw [<- q2,sg,sg];exact Int.natCast_inj
  ·have t1:((-1074+(k:Int)) - min (-1074+(k:Int)) (-1074+((E - 1:Nat):Int))).toNat=k - (E - 1):=by omega
   have t2:((-1074+((E - 1:Nat):Int)) - min (-1074+(k:Int)) (-1074+((E - 1:Nat):Int))).toNat=0:=by omega
   rw [t1,t2]
   obtain⟨q1,q2⟩:=hb (by omega)
   apply QQ
   ·rw [<- q1,sg,sg];exact Int.ofNat_lt
   ·rw [<- q2,sg,sg];exact Int.natCast_inj
 by_cases hy2:y < 4503599627370496
 ·rw [if_pos hy2]
  refine key y 0 (fun _=>?_) (fun h=>by omega)
  have hp:1<=2 ^ (E - 1 - 0):=Nat.one_le_two_pow
  generalize 2 ^ (E - 1 - 0)=p at*
  rw [Nat.pow_zero,Nat.mul_one]
  constructor<;>omega
 ·rw [if_neg hy2]
  refine key (4503599627370496+y % 4503599627370496) (y / 4503599627370496 - 1) (fun h=>?_) (fun h=>?_)
  ·rw [Nat.pow_zero,Nat.mul_one]
   by_cases e:y / 4503599627370496=E
   ·have:E - 1 - (y / 4503599627370496 - 1)=0:=by omega
    rw [this,Nat.pow_zero,Nat.mul_one]
    constructor<;>omega
   ·have hp:=VO (k:=E - 1 - (y / 4503599627370496 - 1)) (by omega)
    generalize 2 ^ (E - 1 - (y / 4503599627370496 - 1))=p at*
    constructor<;>omega
  ·rw [Nat.pow_zero,Nat.mul_one]
   have hp:=VO (k:=y / 4503599627370496 - 1 - (E - 1)) (by omega)
   generalize 2 ^ (y / 4503599627370496 - 1 - (E - 1))=p at*
   have hm:(4503599627370496+y % 4503599627370496)*2<=(4503599627370496+y % 4503599627370496)*p:=Nat.mul_le_mul_left _ hp
   constructor<;>omega
theorem ME (y:Nat) (hy:y < 9218868437227405312):FloatKind.f64.format.order y 0=some (compare y 0):=by
 show(Ieee.double.read y).order (Ieee.double.read 0)=_
 rw [Bw y hy,Bw 0 (by omega),if_pos (show(0:Nat) < 4503599627370496 by omega)]
 have key:∀(m k:Nat),(m=0↔y=0)->(Ieee.Datum.number false m (-1074+(k:Int))).order (Ieee.Datum.number false 0 (-1074))=some (compare y 0):=by
  intro m k hm
  show some (compare (Ieee.signed false m ((-1074+(k:Int)) - min (-1074+(k:Int)) (-1074)).toNat) (Ieee.signed false 0 ((-1074:Int) - min (-1074+(k:Int)) (-1074)).toNat))=_
  congr 1
  apply QQ
  ·rw [sg,sg,Nat.zero_mul]
   exact⟨fun h=>by omega,fun h=>by omega⟩
  ·rw [sg,sg,Nat.zero_mul, <- hm]
   have hp:0 < 2 ^ ((-1074+(k:Int)) - min (-1074+(k:Int)) (-1074)).toNat:=Nat.two_pow_pos _
   generalize 2 ^ ((-1074+(k:Int)) - min (-1074+(k:Int)) (-1074)).toNat=p at*
   constructor
   ·intro h
    have h:m*p=0:=by omega
    rcases Nat.mul_eq_zero.1 h with h | h<;>omega
   ·intro h;subst h;simp
 by_cases hy2:y < 4503599627370496
 ·rw [if_pos hy2];exact key y 0 Iff.rfl
 ·rw [if_neg hy2];exact key _ _ (by omega)
end Go.TM
namespace Go.Proofs.YtgledbghdhjgkaaGreatDoor
open Go Go.TM
theorem xY (x:Int) (h0:0<=x) (h1:x < 18446744073709551616) (b:Bool) (hb:(x / 4503599627370496 % 2048 != 2047)=b) (w:World):Calls Tryz.prog 37 #[.int .u64 x] w fun e w'=>e= .returned (.bool b)/\w=w':=by
 go_enter Tryz.func37,Tryz.ntmps37
 go_wp2_with fail
 go_ret
 exact⟨by rw [<- hb];rfl,rfl⟩
theorem MF (x:Int) (w:World):Sem.run Tryz.prog (callFunc 74 #[.int .u64 x]) w= .ok (.value (.float .f64 x.toNat)) w:=by kernel_rfl
theorem b_eq (a b:Nat):(some (compare a b)==some Ordering.eq)=(a==b):=by
 rcases Nat.lt_trichotomy a b with h | h | h
 ·rw [Nat.compare_eq_lt.2 h];have:a≠b:=by omega
  simp [this]
 ·rw [Nat.compare_eq_eq.2 h];simp [h]
 ·rw [Nat.compare_eq_gt.2 h];have:a≠b:=by omega
  simp [this]
theorem b_ge (a b:Nat):(some (compare a b)==some Ordering.gt||some (compare a b)==some Ordering.eq)=decide (b<=a):=by
 rcases Nat.lt_trichotomy a b with h | h | h
 ·rw [Nat.compare_eq_lt.2 h];have:¬b<=a:=by omega
  simp [this]
 ·rw [Nat.compare_eq_eq.2 h];simp [h]
 ·rw [Nat.compare_eq_gt.2 h];have:b<=a:=by omega
  simp [this]
theorem b_le (a b:Nat):(some (compare a b)==some Ordering.lt||some (compare a b)==some Ordering.eq)=decide (a<=b):=by
 rcases Nat.lt_trichotomy a b with h | h | h
 ·rw [Nat.compare_eq_lt.2 h];have:a<=b:=by omega
  simp [this]
 ·rw [Nat.compare_eq_eq.2 h];simp [h]
 ·rw [Nat.compare_eq_gt.2 h];have:¬a<=b:=by omega
  simp [this]
theorem IL (x:Int) (h0:0<=x) (h1:x < 18446744073709551616) (b:Bool) (hb:(x / 4503599627370496 % 2048 != 2047&&(jK x==0||(decide (2805742567851819008<=jK x)&&decide (jK x<=6408622269748215808))))=b) (w:World):Calls Tryz.prog 38 #[.int .u64 x] w fun e w'=>e= .returned (.bool b)/\w=w':=by
 have hr:=MF
 obtain⟨f,hf⟩:∃f,(x / 4503599627370496 % 2048 != 2047)=f:=⟨_,rfl⟩
 cases f with
 | false=>
  have hb2:b=false:=by rw [<- hb,hf];rfl
  go_enter Tryz.func38,Tryz.ntmps38
  go_wp2_with (first | (go_at_call 37;(with_reducible refine(xY x h0 h1 false hf w).mono ?_);rintro e w' ⟨rfl,rfl⟩))
  go_ret
  exact⟨by rw [hb2];rfl,rfl⟩
 | true=>
  have hw2:IntKind.u64.wrap (x*2)=x*2 % 18446744073709551616:=by simp [IntKind.wrap,IntKind.bits,IntKind.signed]
  have hne:x / 4503599627370496 % 2048≠2047:=by simpa using hf
  obtain⟨Y,hY⟩:∃Y,(x*2 % 18446744073709551616 / 2).toNat=Y:=⟨_,rfl⟩
  have hs:jK x=(Y:Int):=by rw [<- hY];unfold jK;omega
  have hlt:Y < 9218868437227405312:=by rw [<- hY];omega
  have o0:=ME Y hlt
  have o1:FloatKind.f64.format.order Y 2805742567851819008=some (compare Y 2805742567851819008):=KP Y 623 hlt (by omega) (by omega)
  have o2:FloatKind.f64.format.order Y 6408622269748215808=some (compare Y 6408622269748215808):=KP Y 1423 hlt (by omega) (by omega)
  have e0:=b_eq Y 0
  have e1:=b_ge Y 2805742567851819008
  have e2:=b_le Y 6408622269748215808
  have d1:decide ((2805742567851819008:Int)<=(Y:Int))=decide (2805742567851819008<=Y):=by simp only [decide_eq_decide];omega
  have d2:decide ((Y:Int)<=(6408622269748215808:Int))=decide (Y<=6408622269748215808):=by simp only [decide_eq_decide];omega
  have d0:((Y:Int)==0)=(Y==0):=by
   rw [Bool.eq_iff_iff];simp
  rw [hf,hs,d0,d1,d2,Bool.true_and] at hb
  go_enter Tryz.func38,Tryz.ntmps38
  go_wp2_with (first | (go_at_call 37;(with_reducible refine(xY x h0 h1 true hf w).mono ?_);rintro e w' ⟨rfl,rfl⟩))
  all_goals
   go_ret
   refine⟨?_,rfl⟩
   rw [<- hb]
   simp only [hY,o0,o1,o2] at*
  ·rename_i ha
   have e:(Y==0)=true:=by rw [<- e0,ha];rfl
   rw [e];rfl
  ·show Ending.returned (Value.bool _)=Ending.returned (Value.bool _)
   have g1:(compare Y 2805742567851819008==Ordering.gt||compare Y 2805742567851819008==Ordering.eq)=decide (2805742567851819008<=Y):=by rw [<- e1];rfl
   have g2:(compare Y 6408622269748215808==Ordering.lt||compare Y 6408622269748215808==Ordering.eq)=decide (Y<=6408622269748215808):=by rw [<- e2];rfl
   rw [g1,g2]
  ·rename_i ha hc
   have e:decide (2805742567851819008<=Y)=false:=by
    rw [<- e1]
    simp only [not_or] at hc
    simp [hc.1,hc.2]
   show Ending.returned (Value.bool _)=Ending.returned (Value.bool _)
   rw [e,Bool.false_and,Bool.or_false]
end Go.Proofs.YtgledbghdhjgkaaGreatDoor
namespace Go.TM
open Go Go.RowKit Go.AM
section
variable {P:Program} {w0:World}
theorem av.gz {X:Nat->Option XK} {Y:iM} {IT:rq} {SP:Spec} {an:Nat->Option (List TV)} {iv:Nat->Option LI} {f:FuncId} {fn:Func} {l:List TV} {xs:List Int} {R:List Alt} (hmx:P.follows .mixedOrders=true) (hX:∀f x,X f=some x->C8 P f x) (hY:ky P w0 Y) (hIT:au P w0 IT) (hSP:r9 P w0 SP) (hS:mo SP)
  (hf:P.funcs[f]?=some fn) (h1:TV.dY l=true) (h2:wFn X Y SP IT an iv fn l (fun v=>N8 true v fun v=>Lv xs v R)) (g:G):av P w0 f l g fun v g'=>bJ xs R v/\g'=g:=by
 refine(av.forks (Co hX hY hSP hIT (GX hmx hX hY hSP hS) hf h1 h2 g)).Ch ?_
 rintro v g' ⟨h3,rfl⟩
 obtain⟨v',q1,q2⟩:=Ae h3
 exact⟨v',⟨q1,rfl⟩,q2⟩
theorem eD:r9 P w0 (fun _ _ _=>False):=fun _ _ _ h=>h.elim
theorem eB:mo (fun _ _ _=>False):=fun _ _=>⟨False,fun _=>True,fun _=>⟨fun h=>h.elim,fun h=>h.1.elim⟩,fun h=>h.elim⟩
theorem aL.none:aL P w0 (fun _ _=>Option.none):=⟨fun _ _ _ _ _ h=>(by cases h),fun _ _ _ _ _ h=>(by cases h),fun _ _ _ _ _ h=>(by cases h)⟩
theorem aL.cons {n:Nat} {A:List TV->Option (Prop×List Int×List Alt)} {E:Extra} (hA:∀l p xs R,A l=some (p,xs,R)->p->Goes P n/\(∃v,bJ xs R v)/\∀g,av P w0 n l g fun v g'=>bJ xs R v/\g'=g) (hE:aL P w0 E):aL P w0 (fun f l=>bif Nat.beq f n then A l else E f l):=by
 have key:∀f l p xs R,(bif Nat.beq f n then A l else E f l)=some (p,xs,R)->p->Goes P f/\(∃v,bJ xs R v)/\∀g,av P w0 f l g fun v g'=>bJ xs R v/\g'=g:=fun f l p xs R h hp=>by
  cases e:Nat.beq f n with
  | true=>
   rw [e] at h
   have:=Nat.eq_of_beq_eq_true e
   subst this
   exact hA l p xs R h hp
  | false=>
   rw [e] at h
   exact⟨hE.goes f l p xs R h hp,hE.live f l p xs R h hp,hE.call f l p xs R h hp⟩
 exact⟨fun f l p xs R h hp=>(key f l p xs R h hp).1,fun f l p xs R h hp=>(key f l p xs R h hp).2.1,fun f l p xs R h hp=>(key f l p xs R h hp).2.2⟩
end
end Go.TM
namespace Go.Proofs.YtgledbghdhjgkaaGreatDoor
open Go Go.TM
set_option maxRecDepth 100000
section
variable {w0:World} {A:Option Addr} {R O k C:Nat} {wd:Nat->Int} (hA:k=0\/A=some ⟨R,O,none⟩) (hY:ky Tryz.prog w0 (Xz R O k wd)) (hw:∀q,0<=wd q/\wd q < 18446744073709551616) (hk:k<=9223372036854775807)
include hA hY hw hk
theorem VP (x:Int) (hp:0<=x/\x < 18446744073709551616) (g:G):av Tryz.prog w0 154 [.i .u64 (some x)] g fun v g'=>bJ [x] (KH A R O k C wd) v/\g'=g:=by
 have _:=hA
 have _:=hw
 have _:=hk
 have e52:(2:Int) ^ Int.toNat 52=4503599627370496:=rfl
 have hv:0<=x / 2 ^ Int.toNat 52 % 2048/\x / 2 ^ Int.toNat 52 % 2048 < 2048:=by rw [e52];omega
 refine av.qF hY (fn:=Tryz.f154) (by kernel_rfl) rfl rfl ?_
 let L1:List TV:=[.i .u64 (some x), .un, .i .i64 (some 0), .un, .un, .un, .un]
 let L2:List TV:=[.i .u64 (some x), .un, .i .i64 (some 0), .i .u64 (some x), .i .u64 (some (x / 2 ^ Int.toNat 52)), .un, .un]
 let L3:List TV:=[.i .u64 (some x), .un, .i .i64 (some 0), .i .u64 (some x), .i .u64 (some (x / 2 ^ Int.toNat 52)), .i .u64 (some (x / 2 ^ Int.toNat 52 % 2048)), .un]
 let L4:List TV:=[.i .u64 (some x), .un, .i .i64 (some (x / 2 ^ Int.toNat 52 % 2048)), .i .u64 (some x), .i .u64 (some (x / 2 ^ Int.toNat 52)), .i .u64 (some (x / 2 ^ Int.toNat 52 % 2048)), .i .i64 (some (x / 2 ^ Int.toNat 52 % 2048))]
 refine TA.seq (TA.jY (S:=2 ^ 7 - 1) (K:=fun t=>t=L1) bG hY eD (Eq.mpr (by kernel_rfl) (rfl:L1=L1)) fun t1 h1=>?_)
 subst h1
 refine TA.seq (TA.region (aQ.append (l1:=[_,_]) (l2:=[_,_,_]) ?_))
 refine aQ.mono (Q:=fun t' g'=>t'=L2/\o9 (2 ^ 7 - 1) L1 t'/\g'=g) (fun t' g' q=>?_) (gm (an:=fun _=>some [.pn]) bG hY eD (o9.refl (2 ^ 7 - 1) L1) (Eq.mpr (by kernel_rfl) (⟨by decide,by decide,rfl⟩:(0:Int)<=52/\(52:Int)<=63/\L2=L2)))
 obtain⟨q1,_,q3⟩:=q
 subst q1;subst q3
 refine aQ.cons rfl (Kk hY (an:=fun _=>some [.pn]) (c:=[(2047,2047),(2047,2047)]) (u:= .val (.i .u64 (some (x / 2 ^ Int.toNat 52 % 2048)))) (by kernel_rfl) (fun p hp'=>by rcases List.mem_cons.1 hp' with h2 | h2;(subst h2;exact Int.le_refl _);rcases List.mem_cons.1 h2 with h3 | h3;(subst h3;exact Int.le_refl _);cases h3) ?_)
 refine aQ.jY (S:=2 ^ 7 - 1) (t:=L3) (K:=fun t=>t=L4) bG hY eD (Eq.mpr (by kernel_rfl) (⟨by omega,by omega,rfl⟩:(-9223372036854775808:Int)<=x / 2 ^ Int.toNat 52 % 2048/\x / 2 ^ Int.toNat 52 % 2048<=9223372036854775807/\L4=L4)) fun t4 h4=>?_
 subst h4
 exact TA.ret ⟨.inr rfl,List.nodup_nil,fun r hr=>(by cases hr),_,(by kernel_rfl:I7 (Xz R O k wd) L4 _=some [.i .i64 (some (x / 2 ^ Int.toNat 52 % 2048))]),⟨_,List.mem_cons_self ..,[x / 2 ^ Int.toNat 52 % 2048],rfl,(by rw [e52]),rfl⟩,rfl⟩
theorem XE (x:Int) (hp:0<=x/\x < 18446744073709551616) (g:G):av Tryz.prog w0 79 [.i .u64 (some x)] g fun v g'=>bJ [x] (O6 A R O k C wd) v/\g'=g:=
 av.gz (an:=fun q_=>(bif Nat.beq q_ 4 then some [.pn] else (bif Nat.beq q_ 5 then some [.pn] else none))) (iv:=fun _=>none) mixed' bG hY (ah w0) eD eB (fn:=Tryz.f79) (by kernel_rfl) (by kernel_rfl) (Eq.mpr (by kernel_rfl) (XB A R O k C wd hw hk hA x hp)) g
theorem MG (x:Int) (hp:0<=x/\x < 18446744073709551616) (g:G):av Tryz.prog w0 37 [.i .u64 (some x)] g fun v g'=>bJ [x] (xW A R O k C wd) v/\g'=g:=
 av.gz (an:=fun q_=>(bif Nat.beq q_ 4 then some [.pn] else (bif Nat.beq q_ 5 then some [.pn] else none))) (iv:=fun _=>none) mixed' bG hY (ah w0) eD eB (fn:=Tryz.f37) (by kernel_rfl) (by kernel_rfl) (Eq.mpr (by kernel_rfl) (Mx A R O k C wd hw hk hA x hp)) g
theorem XF (i j:Int) (g:G):av Tryz.prog w0 46 [.i .i64 (some i), .i .i64 (some j)] g fun v g'=>bJ [i,j] (O7 A R O k C wd) v/\g'=g:=
 av.gz (an:=fun _=>none) (iv:=fun _=>none) mixed' bG hY (ah w0) eD eB (fn:=Tryz.f46) (by kernel_rfl) (by kernel_rfl) (Eq.mpr (by kernel_rfl) (XD A R O k C wd hw hk hA i j)) g
theorem Jy (x:Int) (hp:0<=x/\x < 18446744073709551616) (g:G):av Tryz.prog w0 38 [.i .u64 (some x)] g fun v g'=>bJ [x] (mX A R O k C wd) v/\g'=g:=by
 have _:=hA
 have _:=hw
 have _:=hk
 have _:=hY
 obtain⟨b,hb⟩:∃b,(x / 4503599627370496 % 2048 != 2047&&(jK x==0||(decide (2805742567851819008<=jK x)&&decide (jK x<=6408622269748215808))))=b:=⟨_,rfl⟩
 have hiff:b=true↔aR x/\cK x:=by
  rw [<- hb]
  simp only [Bool.and_eq_true,Bool.or_eq_true,bne_iff_ne,beq_iff_eq,decide_eq_true_eq]
  exact⟨fun h=>⟨⟨h.1⟩,⟨h.2⟩⟩,fun h=>⟨h.1.out,h.2.out⟩⟩
 have halt:bJ [x] (mX A R O k C wd) (.b (some b)):=by
  cases b with
  | true=>exact⟨_,List.mem_cons_self ..,[],rfl,hiff.1 rfl,rfl⟩
  | false=>exact⟨_,List.mem_cons_of_mem _ (List.mem_cons_self ..),[],rfl,fun h=>absurd (hiff.2 h) (by simp),rfl⟩
 refine .of fun σ w vs h1 h2=>?_
 have hvs:vs=#[.int .u64 x]:=by
  simp only [ai,af] at h1
  obtain⟨v,r,e,rfl,rfl⟩:=h1
  exact Array.toList_inj.1 (by simpa using e)
 subst hvs
 refine CallsIn.mono (callsIn_wide.2 (IL x hp.1 hp.2 b hb w)) ?_
 rintro e w2 ⟨rfl,rfl⟩
 exact⟨_,_,g,σ,rfl,⟨halt,rfl⟩,aJ.refl h2,by simp only [af]⟩
theorem ok_ex1:aL Tryz.prog w0 (KO A R O k C wd):=
 aL.cons (fun l p xs R' h hp=>by
  split at h
  ·rename_i x
   injection h with h;injection h with h1 h2;injection h2 with h2 h3;subst h1;subst h2;subst h3
   have hq:=hp
   exact⟨aO _ Tryz.f154 _ (by kernel_rfl) rfl,(by
    exact⟨_,_,List.mem_cons_self ..,[x / 4503599627370496 % 2048],rfl,rfl,rfl⟩),fun g=>VP hA hY hw hk x hq g⟩
  ·cases h) (aL.cons (fun l p xs R' h hp=>by
  split at h
  ·rename_i x
   injection h with h;injection h with h1 h2;injection h2 with h2 h3;subst h1;subst h2;subst h3
   have hq:=hp
   exact⟨aO _ Tryz.f79 _ (by kernel_rfl) rfl,(by
    exact⟨_,_,List.mem_cons_self ..,[jK x],rfl,rfl,rfl⟩),fun g=>XE hA hY hw hk x hq g⟩
  ·cases h) (aL.cons (fun l p xs R' h hp=>by
  split at h
  ·rename_i x
   injection h with h;injection h with h1 h2;injection h2 with h2 h3;subst h1;subst h2;subst h3
   have hq:=hp
   exact⟨aO _ Tryz.f37 _ (by kernel_rfl) rfl,(by
    by_cases hb:aR x
    ·exact⟨_,_,List.mem_cons_self ..,[],rfl,hb,rfl⟩
    ·exact⟨_,_,List.mem_cons_of_mem _ (List.mem_cons_self ..),[],rfl,hb,rfl⟩),fun g=>MG hA hY hw hk x hq g⟩
  ·cases h) (aL.cons (fun l p xs R' h hp=>by
  split at h
  ·rename_i i j
   injection h with h;injection h with h1 h2;injection h2 with h2 h3;subst h1;subst h2;subst h3
   exact⟨aO _ Tryz.f46 _ (by kernel_rfl) rfl,(by
    exact⟨_,_,List.mem_cons_self ..,[],rfl,trivial,rfl⟩),fun g=>XF hA hY hw hk i j g⟩
  ·cases h) (aL.cons (fun l p xs R' h hp=>by
  split at h
  ·rename_i x
   injection h with h;injection h with h1 h2;injection h2 with h2 h3;subst h1;subst h2;subst h3
   have hq:=hp
   exact⟨aO _ Tryz.f38 _ (by kernel_rfl) rfl,(by
    by_cases hb:aR x/\cK x
    ·exact⟨_,_,List.mem_cons_self ..,[],rfl,hb,rfl⟩
    ·exact⟨_,_,List.mem_cons_of_mem _ (List.mem_cons_self ..),[],rfl,hb,rfl⟩),fun g=>Jy hA hY hw hk x hq g⟩
  ·cases h) aL.none))))
theorem Tw (e1:aL Tryz.prog w0 (KO A R O k C wd)) (x:Int) (hp:0<=x/\x < 18446744073709551616) (g:G):av Tryz.prog w0 95 [.i .u64 (some x)] g fun v g'=>bJ [x] (IK A R O k C wd) v/\g'=g:=
 av.gz (an:=fun _=>none) (iv:=fun _=>none) mixed' bG hY (ah w0) (bA e1 eD) (aP e1 eB) (fn:=Tryz.f95) (by kernel_rfl) (by kernel_rfl) (Eq.mpr (by kernel_rfl) (Tu A R O k C wd hw hk hA x hp)) g
theorem QR (e1:aL Tryz.prog w0 (KO A R O k C wd)) (x:Int) (hp:0<=x/\x < 18446744073709551616) (g:G):av Tryz.prog w0 96 [.i .u64 (some x)] g fun v g'=>bJ [x] (Eh A R O k C wd) v/\g'=g:=
 av.gz (an:=fun _=>none) (iv:=fun _=>none) mixed' bG hY (ah w0) (bA e1 eD) (aP e1 eB) (fn:=Tryz.f96) (by kernel_rfl) (by kernel_rfl) (Eq.mpr (by kernel_rfl) (QO A R O k C wd hw hk hA x hp)) g
theorem ok_ex2 (e1:aL Tryz.prog w0 (KO A R O k C wd)):aL Tryz.prog w0 (QM A R O k C wd):=
 aL.cons (fun l p xs R' h hp=>by
  split at h
  ·rename_i x
   injection h with h;injection h with h1 h2;injection h2 with h2 h3;subst h1;subst h2;subst h3
   have hq:=hp
   exact⟨aO _ Tryz.f95 _ (by kernel_rfl) rfl,(by
    by_cases hb:aR x
    ·exact⟨_,_,List.mem_cons_self ..,[],rfl,hb,rfl⟩
    ·exact⟨_,_,List.mem_cons_of_mem _ (List.mem_cons_self ..),[],rfl,hb,rfl⟩),fun g=>Tw hA hY hw hk e1 x hq g⟩
  ·cases h) (aL.cons (fun l p xs R' h hp=>by
  split at h
  ·rename_i x
   injection h with h;injection h with h1 h2;injection h2 with h2 h3;subst h1;subst h2;subst h3
   have hq:=hp
   exact⟨aO _ Tryz.f96 _ (by kernel_rfl) rfl,(by
    by_cases hb:cK x
    ·exact⟨_,_,List.mem_cons_self ..,[],rfl,hb,rfl⟩
    ·exact⟨_,_,List.mem_cons_of_mem _ (List.mem_cons_self ..),[],rfl,hb,rfl⟩),fun g=>QR hA hY hw hk e1 x hq g⟩
  ·cases h) aL.none)
theorem VQ (e1:aL Tryz.prog w0 (KO A R O k C wd)) (e2:aL Tryz.prog w0 (QM A R O k C wd)) (x:Int) (hp:0<=x/\x < 18446744073709551616) (g:G):av Tryz.prog w0 94 [.i .u64 (some x)] g fun v g'=>bJ [x] (KI A R O k C wd) v/\g'=g:=
 av.gz (an:=fun _=>none) (iv:=fun _=>none) mixed' bG hY (ah w0) (bA e2 (bA e1 eD)) (aP e2 (aP e1 eB)) (fn:=Tryz.f94) (by kernel_rfl) (by kernel_rfl) (Eq.mpr (by kernel_rfl) (VJ A R O k C wd hw hk hA x hp)) g
theorem QS (e1:aL Tryz.prog w0 (KO A R O k C wd)) (e2:aL Tryz.prog w0 (QM A R O k C wd)) (i j n:Int) (hp:0<=i/\i < n/\0<=j/\j < n/\n<=512/\(k:Int)=n*n) (g:G):av Tryz.prog w0 78 [.i .i64 (some i), .i .i64 (some j), .p [.val (.slice A k C)], .p [.i .i64 (some n)]] g fun v g'=>bJ [i,j,n] (Ei A R O k C wd) v/\g'=g:=
 av.gz (an:=fun _=>none) (iv:=fun _=>none) mixed' bG hY (ah w0) (bA e2 (bA e1 eD)) (aP e2 (aP e1 eB)) (fn:=Tryz.f78) (by kernel_rfl) (by kernel_rfl) (Eq.mpr (by kernel_rfl) (QP A R O k C wd hw hk hA i j n hp)) g
theorem ok_ex3 (e1:aL Tryz.prog w0 (KO A R O k C wd)) (e2:aL Tryz.prog w0 (QM A R O k C wd)):aL Tryz.prog w0 (TR A R O k C wd):=
 aL.cons (fun l p xs R' h hp=>by
  split at h
  ·rename_i x
   injection h with h;injection h with h1 h2;injection h2 with h2 h3;subst h1;subst h2;subst h3
   have hq:=hp
   exact⟨aO _ Tryz.f94 _ (by kernel_rfl) rfl,(by
    by_cases hb:aR x
    ·exact⟨_,_,List.mem_cons_of_mem _ (List.mem_cons_self ..),[],rfl,hb,rfl⟩
    ·exact⟨_,_,List.mem_cons_self ..,[],rfl,hb,rfl⟩),fun g=>VQ hA hY hw hk e1 e2 x hq g⟩
  ·cases h) (aL.cons (fun l p xs R' h hp=>by
  split at h
  ·rename_i i j a2 n
   injection h with h;injection h with h1 h2;injection h2 with h2 h3;subst h1;subst h2;subst h3
   obtain⟨rfl,hq⟩:=hp
   exact⟨aO _ Tryz.f78 _ (by kernel_rfl) rfl,(by
    by_cases hb:iX O wd n i j
    ·exact⟨_,_,List.mem_cons_self ..,[],rfl,hb,rfl⟩
    ·exact⟨_,_,List.mem_cons_of_mem _ (List.mem_cons_self ..),[],rfl,hb,rfl⟩),fun g=>QS hA hY hw hk e1 e2 i j n hq g⟩
  ·cases h) aL.none)
theorem MH (e1:aL Tryz.prog w0 (KO A R O k C wd)) (e2:aL Tryz.prog w0 (QM A R O k C wd)) (e3:aL Tryz.prog w0 (TR A R O k C wd)) (g:G):av Tryz.prog w0 153 [.val (.slice A k C), .fn 94 [] []] g fun v g'=>bJ [] (xX A R O k C wd) v/\g'=g:=
 av.gz (an:=fun _=>none) (iv:=fun q_=>(bif Nat.beq q_ 0 then some ⟨[(4, .i .i64 (some 0)),(8, .i .i64 (some 0))],[],fun | [t4,t8]=>(7000:Int)=7000/\(0<=t8/\t8<=k/\∀q:Nat,(q:Int) < t8->aR (wd (O+q))) | _=>False,fun | [t4,t8]=>k - t8 | _=>0,0,[]⟩ else none)) mixed' bG hY (ah w0) (bA e3 (bA e2 (bA e1 eD))) (aP e3 (aP e2 (aP e1 eB))) (fn:=Tryz.f153) (by kernel_rfl) (by kernel_rfl) (Eq.mpr (by kernel_rfl) (MB A R O k C wd hw hk hA)) g
theorem ok_ex4 (e1:aL Tryz.prog w0 (KO A R O k C wd)) (e2:aL Tryz.prog w0 (QM A R O k C wd)) (e3:aL Tryz.prog w0 (TR A R O k C wd)):aL Tryz.prog w0 (Wt A R O k C wd):=
 aL.cons (fun l p xs R' h hp=>by
  split at h
  ·rename_i a0 a1
   injection h with h;injection h with h1 h2;injection h2 with h2 h3;subst h1;subst h2;subst h3
   obtain⟨rfl,rfl⟩:=hp
   exact⟨aO _ Tryz.f153 _ (by kernel_rfl) rfl,(by
    by_cases hb:∀q:Nat,q < k->aR (wd (O+q))
    ·exact⟨_,_,List.mem_cons_self ..,[-1],rfl, .inl ⟨rfl,hb⟩,rfl⟩
    ·exact⟨_,_,List.mem_cons_self ..,[0],rfl, .inr ⟨by omega,hb⟩,rfl⟩),fun g=>MH hA hY hw hk e1 e2 e3 g⟩
  ·cases h) aL.none
theorem O9 (e1:aL Tryz.prog w0 (KO A R O k C wd)) (e2:aL Tryz.prog w0 (QM A R O k C wd)) (e3:aL Tryz.prog w0 (TR A R O k C wd)) (e4:aL Tryz.prog w0 (Wt A R O k C wd)) (g:G):av Tryz.prog w0 93 [.val (.slice A k C), .fn 94 [] []] g fun v g'=>bJ [] (Bv A R O k C wd) v/\g'=g:=
 av.gz (an:=fun _=>none) (iv:=fun _=>none) mixed' bG hY (ah w0) (bA e4 (bA e3 (bA e2 (bA e1 eD)))) (aP e4 (aP e3 (aP e2 (aP e1 eB)))) (fn:=Tryz.f93) (by kernel_rfl) (by kernel_rfl) (Eq.mpr (by kernel_rfl) (O8 A R O k C wd hw hk hA)) g
theorem ok_ex5 (e1:aL Tryz.prog w0 (KO A R O k C wd)) (e2:aL Tryz.prog w0 (QM A R O k C wd)) (e3:aL Tryz.prog w0 (TR A R O k C wd)) (e4:aL Tryz.prog w0 (Wt A R O k C wd)):aL Tryz.prog w0 (Zj A R O k C wd):=
 aL.cons (fun l p xs R' h hp=>by
  split at h
  ·rename_i a0 a1
   injection h with h;injection h with h1 h2;injection h2 with h2 h3;subst h1;subst h2;subst h3
   obtain⟨rfl,rfl⟩:=hp
   exact⟨aO _ Tryz.f93 _ (by kernel_rfl) rfl,(by
    by_cases hb:∀q:Nat,q < k->aR (wd (O+q))
    ·exact⟨_,_,List.mem_cons_of_mem _ (List.mem_cons_self ..),[],rfl,hb,rfl⟩
    ·exact⟨_,_,List.mem_cons_self ..,[],rfl,hb,rfl⟩),fun g=>O9 hA hY hw hk e1 e2 e3 e4 g⟩
  ·cases h) aL.none
theorem VR (e1:aL Tryz.prog w0 (KO A R O k C wd)) (e2:aL Tryz.prog w0 (QM A R O k C wd)) (e3:aL Tryz.prog w0 (TR A R O k C wd)) (e4:aL Tryz.prog w0 (Wt A R O k C wd)) (e5:aL Tryz.prog w0 (Zj A R O k C wd)) (m n:Int) (g:G):av Tryz.prog w0 45 [.i .i64 (some m), .i .i64 (some n), .val (.slice A k C), .fn 46 [] []] g fun v g'=>bJ [m,n] (KJ A R O k C wd) v/\g'=g:=
 av.gz (an:=fun _=>none) (iv:=fun q_=>(bif Nat.beq q_ 0 then some ⟨[(9, .i .i64 (some 0)),(43, .i .i64 (some 0)),(8, .ow [.i .i64 (some 0), .i .i64 (some 0), .s [.f] (some 0)])],[],fun | [t9,t43,pa,pb,pd]=>(7000:Int)=7000/\(0<=t43) | _=>False,fun | [t9,t43,pa,pb,pd]=>m - t43 | _=>0,0,[]⟩ else (bif Nat.beq q_ 2 then some ⟨[(9, .i .i64 (some 0)),(47, .i .i64 (some 0)),(8, .ow [.i .i64 (some 0), .i .i64 (some 0), .s [.f] (some 0)])],[],fun | [t9,t47,pa,pb,pd,z]=>(7002:Int)=7002/\(0<=t47/\0<=z/\z < m) | _=>False,fun | [t9,t47,pa,pb,pd,z]=>n - t47 | _=>0,0,[(43, .i .i64 (some 0))]⟩ else (bif Nat.beq q_ 4 then some ⟨[(9, .i .i64 (some 0)),(63, .i .i64 (some 0)),(8, .ow [.i .i64 (some 0), .i .i64 (some 0), .s [.f] (some 0)]),(12, .ow [.i .i64 (some 0), .i .i64 (some 0), .s [.f] (some 0)])],[],fun | [t9,t63,pa,pb,pd,P,Q,D]=>(7004:Int)=7004/\(0<=t63/\t63<=k/\P=m/\Q=n/\D=t63/\∀q:Nat,(q:Int) < t63->cK (wd (O+q))) | _=>False,fun | [t9,t63,pa,pb,pd,P,Q,D]=>k - t63 | _=>0,0,[]⟩ else none)))) mixed' bG hY (ah w0) (bA e5 (bA e4 (bA e3 (bA e2 (bA e1 eD))))) (aP e5 (aP e4 (aP e3 (aP e2 (aP e1 eB))))) (fn:=Tryz.f45) (by kernel_rfl) (by kernel_rfl) (Eq.mpr (by kernel_rfl) (VK A R O k C wd hw hk hA m n)) g
theorem VS (e1:aL Tryz.prog w0 (KO A R O k C wd)) (e2:aL Tryz.prog w0 (QM A R O k C wd)) (e3:aL Tryz.prog w0 (TR A R O k C wd)) (e4:aL Tryz.prog w0 (Wt A R O k C wd)) (e5:aL Tryz.prog w0 (Zj A R O k C wd)) (m n:Int) (hp:m=n) (g:G):av Tryz.prog w0 45 [.i .i64 (some m), .i .i64 (some n), .val (.slice A k C), .fn 78 [] [.p [.val (.slice A k C)], .p [.i .i64 (some n)]]] g fun v g'=>bJ [m,n] (KL A R O k C wd) v/\g'=g:=
 av.gz (an:=fun _=>none) (iv:=fun q_=>(bif Nat.beq q_ 0 then some ⟨[(9, .i .i64 (some 0)),(43, .i .i64 (some 0)),(8, .ow [.i .i64 (some 0), .i .i64 (some 0), .s [.f] (some 0)])],[],fun | [t9,t43,pa,pb,pd]=>(7000:Int)=7000/\(0<=t43/\∀i j:Int,0<=i->i < t43->0<=j->j < n->iX O wd n i j) | _=>False,fun | [t9,t43,pa,pb,pd]=>m - t43 | _=>0,0,[]⟩ else (bif Nat.beq q_ 2 then some ⟨[(9, .i .i64 (some 0)),(47, .i .i64 (some 0)),(8, .ow [.i .i64 (some 0), .i .i64 (some 0), .s [.f] (some 0)])],[],fun | [t9,t47,pa,pb,pd,z]=>(7002:Int)=7002/\(0<=t47/\0<=z/\z < m/\∀j:Int,0<=j->j < t47->iX O wd n z j) | _=>False,fun | [t9,t47,pa,pb,pd,z]=>n - t47 | _=>0,0,[(43, .i .i64 (some 0))]⟩ else (bif Nat.beq q_ 4 then some ⟨[(9, .i .i64 (some 0)),(63, .i .i64 (some 0)),(8, .ow [.i .i64 (some 0), .i .i64 (some 0), .s [.f] (some 0)]),(12, .ow [.i .i64 (some 0), .i .i64 (some 0), .s [.f] (some 0)])],[],fun | [t9,t63,pa,pb,pd,P,Q,D]=>(7004:Int)=7004/\(0<=t63/\t63<=k/\P=m/\Q=n/\D=t63/\∀q:Nat,(q:Int) < t63->cK (wd (O+q))) | _=>False,fun | [t9,t63,pa,pb,pd,P,Q,D]=>k - t63 | _=>0,0,[]⟩ else none)))) mixed' bG hY (ah w0) (bA e5 (bA e4 (bA e3 (bA e2 (bA e1 eD))))) (aP e5 (aP e4 (aP e3 (aP e2 (aP e1 eB))))) (fn:=Tryz.f45) (by kernel_rfl) (by kernel_rfl) (Eq.mpr (by kernel_rfl) (VL A R O k C wd hw hk hA m n hp)) g
theorem ok_ex6 (e1:aL Tryz.prog w0 (KO A R O k C wd)) (e2:aL Tryz.prog w0 (QM A R O k C wd)) (e3:aL Tryz.prog w0 (TR A R O k C wd)) (e4:aL Tryz.prog w0 (Wt A R O k C wd)) (e5:aL Tryz.prog w0 (Zj A R O k C wd)):aL Tryz.prog w0 (ex6 A R O k C wd):=
 aL.cons (fun l p xs R' h hp=>by
  split at h
  ·rename_i m n a2 gg fs cs
   cases q1:Nat.beq gg 46 with
   | true=>
    rw [q1] at h
    have:=Nat.eq_of_beq_eq_true q1
    subst this
    injection h with h;injection h with h1 h2;injection h2 with h2 h3;subst h1;subst h2;subst h3
    obtain⟨rfl,rfl,rfl⟩:=hp
    exact⟨aO _ Tryz.f45 _ (by kernel_rfl) rfl,(by
     exact⟨_,_,List.mem_cons_self ..,[0,0,0,1],rfl,⟨fun h=>absurd h (by decide),by decide,by decide,by decide,by decide⟩,rfl⟩),fun g=>VR hA hY hw hk e1 e2 e3 e4 e5 m n g⟩
   | false=>
    rw [q1] at h
    cases q2:Nat.beq gg 78 with
    | true=>
     rw [q2] at h
     have:=Nat.eq_of_beq_eq_true q2
     subst this
     injection h with h;injection h with h1 h2;injection h2 with h2 h3;subst h1;subst h2;subst h3
     obtain⟨rfl,rfl,rfl,hq⟩:=hp
     exact⟨aO _ Tryz.f45 _ (by kernel_rfl) rfl,(by
      exact⟨_,_,List.mem_cons_self ..,[0,0,0,1],rfl,⟨fun h=>absurd h (by decide),by decide,by decide,by decide,by decide⟩,rfl⟩),fun g=>VS hA hY hw hk e1 e2 e3 e4 e5 m n hq g⟩
    | false=>rw [q2] at h;cases h
  ·cases h) aL.none
theorem KQ (e1:aL Tryz.prog w0 (KO A R O k C wd)) (e2:aL Tryz.prog w0 (QM A R O k C wd)) (e3:aL Tryz.prog w0 (TR A R O k C wd)) (e4:aL Tryz.prog w0 (Wt A R O k C wd)) (e5:aL Tryz.prog w0 (Zj A R O k C wd)) (e6:aL Tryz.prog w0 (ex6 A R O k C wd)) (n:Int) (g:G):av Tryz.prog w0 33 [.i .i64 (some n), .val (.slice A k C)] g fun v g'=>bJ [n] (y8 A R O k C wd) v/\g'=g:=
 av.gz (an:=fun _=>none) (iv:=fun _=>none) mixed' bG hY (ah w0) (bA e6 (bA e5 (bA e4 (bA e3 (bA e2 (bA e1 eD)))))) (aP e6 (aP e5 (aP e4 (aP e3 (aP e2 (aP e1 eB)))))) (fn:=Tryz.f33) (by kernel_rfl) (by kernel_rfl) (Eq.mpr (by kernel_rfl) (Tv A R O k C wd hw hk hA n)) g
theorem VU (e1:aL Tryz.prog w0 (KO A R O k C wd)) (e2:aL Tryz.prog w0 (QM A R O k C wd)) (e3:aL Tryz.prog w0 (TR A R O k C wd)) (e4:aL Tryz.prog w0 (Wt A R O k C wd)) (e5:aL Tryz.prog w0 (Zj A R O k C wd)) (e6:aL Tryz.prog w0 (ex6 A R O k C wd)) (m n:Int) (g:G):av Tryz.prog w0 18 [.i .i64 (some m), .i .i64 (some n), .val (.slice A k C)] g fun v g'=>bJ [m,n] (Mw A R O k C wd) v/\g'=g:=
 av.gz (an:=fun _=>none) (iv:=fun _=>none) mixed' bG hY (ah w0) (bA e6 (bA e5 (bA e4 (bA e3 (bA e2 (bA e1 eD)))))) (aP e6 (aP e5 (aP e4 (aP e3 (aP e2 (aP e1 eB)))))) (fn:=Tryz.f18) (by kernel_rfl) (by kernel_rfl) (Eq.mpr (by kernel_rfl) (vx_Any A R O k C wd hw hk hA m n)) g
theorem ok_ex7 (e1:aL Tryz.prog w0 (KO A R O k C wd)) (e2:aL Tryz.prog w0 (QM A R O k C wd)) (e3:aL Tryz.prog w0 (TR A R O k C wd)) (e4:aL Tryz.prog w0 (Wt A R O k C wd)) (e5:aL Tryz.prog w0 (Zj A R O k C wd)) (e6:aL Tryz.prog w0 (ex6 A R O k C wd)):aL Tryz.prog w0 (ex7 A R O k C wd):=
 aL.cons (fun l p xs R' h hp=>by
  split at h
  ·rename_i n a1
   injection h with h;injection h with h1 h2;injection h2 with h2 h3;subst h1;subst h2;subst h3
   obtain rfl:=hp
   exact⟨aO _ Tryz.f33 _ (by kernel_rfl) rfl,(by
    exact⟨_,_,List.mem_cons_self ..,[0,0,0,1],rfl,⟨fun h=>absurd h (by decide),by decide,by decide,by decide,by decide⟩,rfl⟩),fun g=>KQ hA hY hw hk e1 e2 e3 e4 e5 e6 n g⟩
  ·cases h) (aL.cons (fun l p xs R' h hp=>by
  split at h
  ·rename_i m n a2
   injection h with h;injection h with h1 h2;injection h2 with h2 h3;subst h1;subst h2;subst h3
   obtain rfl:=hp
   exact⟨aO _ Tryz.f18 _ (by kernel_rfl) rfl,(by
    exact⟨_,_,List.mem_cons_self ..,[0,0,0,1],rfl,⟨fun h=>absurd h (by decide),by decide,by decide,by decide,by decide⟩,rfl⟩),fun g=>VU hA hY hw hk e1 e2 e3 e4 e5 e6 m n g⟩
  ·cases h) aL.none)
theorem VV (e1:aL Tryz.prog w0 (KO A R O k C wd)) (m n:Int) (hp:m=n) (g:G):av Tryz.prog w0 14 [.i .i64 (some m), .i .i64 (some n), .val (.slice A k C), .b (some true)] g fun v g'=>bJ [m,n] (KM A R O k C wd) v/\g'=g:=
 av.gz (an:=fun q_=>(bif Nat.beq q_ 83 then some [.pn] else (bif Nat.beq q_ 87 then some [.pn] else none))) (iv:=fun q_=>(bif Nat.beq q_ 0 then some ⟨[(8, .i .i64 (some 0)),(9, .i .i64 (some 0))],[],fun | [t8,t9]=>(7000:Int)=7000/\(0<=t9) | _=>False,fun | [t8,t9]=>k - t9 | _=>0,0,[]⟩ else (bif Nat.beq q_ 2 then some ⟨[(8, .i .i64 (some 0)),(10, .i .i64 (some 0))],[],fun | [t8,t10]=>(7002:Int)=7002/\(0<=t10) | _=>False,fun | [t8,t10]=>m - t10 | _=>0,0,[]⟩ else (bif Nat.beq q_ 4 then some ⟨[(8, .i .i64 (some 0)),(11, .i .i64 (some 0))],[],fun | [t8,t11,z]=>(7004:Int)=7004/\(0<=t11/\0<=z/\z < m) | _=>False,fun | [t8,t11,z]=>z - t11 | _=>0,0,[(10, .i .i64 (some 0))]⟩ else (bif Nat.beq q_ 6 then some ⟨[(8, .i .i64 (some 0)),(14, .i .i64 (some 0))],[],fun | [t8,t14]=>(7006:Int)=7006/\(0<=t14) | _=>False,fun | [t8,t14]=>k - t14 | _=>0,0,[]⟩ else none))))) mixed' bG hY (ah w0) (bA e1 eD) (aP e1 eB) (fn:=Tryz.f14) (by kernel_rfl) (by kernel_rfl) (Eq.mpr (by kernel_rfl) (VM A R O k C wd hw hk hA m n hp)) g
theorem VW (e1:aL Tryz.prog w0 (KO A R O k C wd)) (m n:Int) (g:G):av Tryz.prog w0 14 [.i .i64 (some m), .i .i64 (some n), .val (.slice A k C), .b (some false)] g fun v g'=>bJ [m,n] (KN A R O k C wd) v/\g'=g:=
 av.gz (an:=fun q_=>(bif Nat.beq q_ 83 then some [.pn] else (bif Nat.beq q_ 87 then some [.pn] else none))) (iv:=fun q_=>(bif Nat.beq q_ 0 then some ⟨[(8, .i .i64 (some 0)),(9, .i .i64 (some 0))],[],fun | [t8,t9]=>(7000:Int)=7000/\(0<=t9) | _=>False,fun | [t8,t9]=>k - t9 | _=>0,0,[]⟩ else (bif Nat.beq q_ 2 then some ⟨[(8, .i .i64 (some 0)),(10, .i .i64 (some 0))],[],fun | [t8,t10]=>(7002:Int)=7002/\(0<=t10) | _=>False,fun | [t8,t10]=>m - t10 | _=>0,0,[]⟩ else (bif Nat.beq q_ 4 then some ⟨[(8, .i .i64 (some 0)),(11, .i .i64 (some 0))],[],fun | [t8,t11,z]=>(7004:Int)=7004/\(0<=t11/\0<=z/\z < m) | _=>False,fun | [t8,t11,z]=>z - t11 | _=>0,0,[(10, .i .i64 (some 0))]⟩ else (bif Nat.beq q_ 6 then some ⟨[(8, .i .i64 (some 0)),(14, .i .i64 (some 0))],[],fun | [t8,t14]=>(7006:Int)=7006/\(0<=t14) | _=>False,fun | [t8,t14]=>k - t14 | _=>0,0,[]⟩ else none))))) mixed' bG hY (ah w0) (bA e1 eD) (aP e1 eB) (fn:=Tryz.f14) (by kernel_rfl) (by kernel_rfl) (Eq.mpr (by kernel_rfl) (VN A R O k C wd hw hk hA m n)) g
end
end Go.Proofs.YtgledbghdhjgkaaGreatDoor
namespace Go.Proofs.YtgledbghdhjgkaaGreatDoor
open Go Go.TM
set_option maxRecDepth 100000
def exT (A:Option Addr) (k C:Nat) (Q:Int->Int->Int->Prop):Extra:=fun f l=>
 bif Nat.beq f 12 then (match l with
  | [.i .i64 (some n),x, .i .i64 (some b)]=>some (x= .val (.slice A k C)/\b=1,[n],[altE Q])
  | _=>none)
 else bif Nat.beq f 8 then (match l with
  | [.i .i64 (some m), .i .i64 (some n),x, .i .i64 (some w)]=>some (x= .val (.slice A k C)/\(w=1\/w=2),[m,n,w],[altS Q])
  | _=>none)
 else bif Nat.beq f 14 then (match l with
  | [.i .i64 (some m), .i .i64 (some n),x, .b (some s)]=>some (x= .val (.slice A k C)/\(s=true->m=n),[m,n,bif s then 1 else 0],[⟨.i .i64 (some 0),fun | [m,n,s]=>(fun | [e]=>Q s m n->e=0 | _=>False) | _=>fun _=>False⟩])
  | _=>none)
 else bif Nat.beq f 6 then (match l with
  | []=>some (True,[],[⟨.b (some true),fun | []=>(fun | []=>True | _=>False) | _=>fun _=>False⟩])
  | _=>none)
 else none
set_option maxHeartbeats 2000000 in
theorem Pb (A:Option Addr) (k C:Nat) (Q:Int->Int->Int->Prop) (m n:Int):(36 < (k:Int)->True/\(True->True\/False)/\True)/\(¬36 < (k:Int)->(TV.val (Value.slice A k C)=TV.val (Value.slice A k C)/\(1:Int)=1)/\(∀(x x x x x x:Int),0<=x/\(x=0\/Q 1 n n/\0<=n/\n<=512/\x<=30*n)->(TV.val (Value.slice A k C)=TV.val (Value.slice A k C)/\((1:Int)=1\/(1:Int)=2))/\(∀(lW kN nk sw xV IJ Jr EU eH:Int),0<=eH/\(eH=0\/Q 0 m n/\0<=m/\m<=512/\0<=n/\n<=512/\((1:Int)=1->eH<=30*m/\eH<=30*n))->(TV.val (Value.slice A k C)=TV.val (Value.slice A k C)/\((2:Int)=1\/(2:Int)=2))/\(∀(Ba jd yN ni lM bC EW x_17 wG:Int),0<=wG/\(wG=0\/Q 0 m n/\0<=m/\m<=512/\0<=n/\n<=512/\((2:Int)=1->wG<=30*m/\wG<=30*n))->(TV.val (Value.slice A k C)=TV.val (Value.slice A k C)/\(true=true->n=n))/\(∀(x_19:Int),(Q (bif true then (1:Int) else 0) n n->x_19=0)->(¬x_19=0->(¬¬x=0->(TV.val (Value.slice A k C)=TV.val (Value.slice A k C)/\(false=true->m=n))/\(∀(QT:Int),(Q (bif false then (1:Int) else 0) m n->QT=0)->(¬QT=0->(¬¬eH=0->¬¬wG=0/\(¬¬wG=0->(¬x < 0->(¬eH < 0->¬wG < 0/\(¬wG < 0->(n < m->(¬x=0->-9223372036854775808<=30*n/\30*n<=9223372036854775807/\(x<=30*n->(¬eH=0->-9223372036854775808<=30*n/\30*n<=9223372036854775807/\(eH<=30*n->True/\(True->True\/False)/\True)/\¬¬eH<=30*n)/\(eH=0->True/\(True->True\/False)/\True))/\¬¬x<=30*n)/\(x=0->(¬eH=0->-9223372036854775808<=30*n/\30*n<=9223372036854775807/\(eH<=30*n->True/\(True->True\/False)/\True)/\¬¬eH<=30*n)/\(eH=0->True/\(True->True\/False)/\True)))/\(¬n < m->(¬x=0->-9223372036854775808<=30*n/\30*n<=9223372036854775807/\(x<=30*n->(¬eH=0->-9223372036854775808<=30*m/\30*m<=9223372036854775807/\(eH<=30*m->True/\(True->True\/False)/\True)/\¬¬eH<=30*m)/\(eH=0->True/\(True->True\/False)/\True))/\¬¬x<=30*n)/\(x=0->(¬eH=0->-9223372036854775808<=30*m/\30*m<=9223372036854775807/\(eH<=30*m->True/\(True->True\/False)/\True)/\¬¬eH<=30*m)/\(eH=0->True/\(True->True\/False)/\True)))))/\¬eH < 0)/\¬x < 0))/\¬¬eH=0)/\(¬¬QT=0->(¬x < 0->(¬eH < 0->¬wG < 0/\(¬wG < 0->(n < m->(¬x=0->-9223372036854775808<=30*n/\30*n<=9223372036854775807/\(x<=30*n->(¬eH=0->-9223372036854775808<=30*n/\30*n<=9223372036854775807/\(eH<=30*n->True/\(True->True\/False)/\True)/\¬¬eH<=30*n)/\(eH=0->True/\(True->True\/False)/\True))/\¬¬x<=30*n)/\(x=0->(¬eH=0->-9223372036854775808<=30*n/\30*n<=9223372036854775807/\(eH<=30*n->True/\(True->True\/False)/\True)/\¬¬eH<=30*n)/\(eH=0->True/\(True->True\/False)/\True)))/\(¬n < m->(¬x=0->-9223372036854775808<=30*n/\30*n<=9223372036854775807/\(x<=30*n->(¬eH=0->-9223372036854775808<=30*m/\30*m<=9223372036854775807/\(eH<=30*m->True/\(True->True\/False)/\True)/\¬¬eH<=30*m)/\(eH=0->True/\(True->True\/False)/\True))/\¬¬x<=30*n)/\(x=0->(¬eH=0->-9223372036854775808<=30*m/\30*m<=9223372036854775807/\(eH<=30*m->True/\(True->True\/False)/\True)/\¬¬eH<=30*m)/\(eH=0->True/\(True->True\/False)/\True)))))/\¬eH < 0)/\¬x < 0))/\True)/\¬¬x=0)/\(¬¬x_19=0->(TV.val (Value.slice A k C)=TV.val (Value.slice A k C)/\(false=true->m=n))/\(∀(QT:Int),(Q (bif false then (1:Int) else 0) m n->QT=0)->(¬QT=0->(¬¬eH=0->¬¬wG=0/\(¬¬wG=0->(¬x < 0->(¬eH < 0->¬wG < 0/\(¬wG < 0->(n < m->(¬x=0->-9223372036854775808<=30*n/\30*n<=9223372036854775807/\(x<=30*n->(¬eH=0->-9223372036854775808<=30*n/\30*n<=9223372036854775807/\(eH<=30*n->True/\(True->True\/False)/\True)/\¬¬eH<=30*n)/\(eH=0->True/\(True->True\/False)/\True))/\¬¬x<=30*n)/\(x=0->(¬eH=0->-9223372036854775808<=30*n/\30*n<=9223372036854775807/\(eH<=30*n->True/\(True->True\/False)/\True)/\¬¬eH<=30*n)/\(eH=0->True/\(True->True\/False)/\True)))/\(¬n < m->(¬x=0->-9223372036854775808<=30*n/\30*n<=9223372036854775807/\(x<=30*n->(¬eH=0->-9223372036854775808<=30*m/\30*m<=9223372036854775807/\(eH<=30*m->True/\(True->True\/False)/\True)/\¬¬eH<=30*m)/\(eH=0->True/\(True->True\/False)/\True))/\¬¬x<=30*n)/\(x=0->(¬eH=0->-9223372036854775808<=30*m/\30*m<=9223372036854775807/\(eH<=30*m->True/\(True->True\/False)/\True)/\¬¬eH<=30*m)/\(eH=0->True/\(True->True\/False)/\True)))))/\¬eH < 0)/\¬x < 0))/\¬¬eH=0)/\(¬¬QT=0->(¬x < 0->(¬eH < 0->¬wG < 0/\(¬wG < 0->(n < m->(¬x=0->-9223372036854775808<=30*n/\30*n<=9223372036854775807/\(x<=30*n->(¬eH=0->-9223372036854775808<=30*n/\30*n<=9223372036854775807/\(eH<=30*n->True/\(True->True\/False)/\True)/\¬¬eH<=30*n)/\(eH=0->True/\(True->True\/False)/\True))/\¬¬x<=30*n)/\(x=0->(¬eH=0->-9223372036854775808<=30*n/\30*n<=9223372036854775807/\(eH<=30*n->True/\(True->True\/False)/\True)/\¬¬eH<=30*n)/\(eH=0->True/\(True->True\/False)/\True)))/\(¬n < m->(¬x=0->-9223372036854775808<=30*n/\30*n<=9223372036854775807/\(x<=30*n->(¬eH=0->-9223372036854775808<=30*m/\30*m<=9223372036854775807/\(eH<=30*m->True/\(True->True\/False)/\True)/\¬¬eH<=30*m)/\(eH=0->True/\(True->True\/False)/\True))/\¬¬x<=30*n)/\(x=0->(¬eH=0->-9223372036854775808<=30*m/\30*m<=9223372036854775807/\(eH<=30*m->True/\(True->True\/False)/\True)/\¬¬eH<=30*m)/\(eH=0->True/\(True->True\/False)/\True)))))/\¬eH < 0)/\¬x < 0))/\True))/\True)/\True)/\True)/\True):=by
 simp only [or_false,true_or,and_true,true_and,cond_true,cond_false]
 repeat' (first | (with_reducible refine and_imp.mpr ?_) | (unhygienic intro) | refine And.intro ?_ ?_)
 all_goals first | trivial | rfl | omega | grind
theorem Jz {w0:World} {A:Option Addr} {k C:Nat} {Q:Int->Int->Int->Prop} (hx:aL Tryz.prog w0 (exT A k C Q)) (m n:Int) (g:G):av Tryz.prog w0 4 [.i .i64 (some m), .i .i64 (some n), .val (.slice A k C)] g fun v g'=>bJ [] [⟨.b (some true),fun | []=>(fun | []=>True | _=>False) | _=>fun _=>False⟩] v/\g'=g:=
 av.G5 (an:=fun _=>none) (iv:=fun _=>none) mixed' bG bI (ah w0) (bA hx (show r9 Tryz.prog w0 (fun _ _ _=>False) from fun _ _ _ h=>h.elim)) (aP hx (show mo (fun _ _ _=>False) from fun _ _=>⟨False,fun _=>True,fun _=>⟨fun h=>h.elim,fun h=>h.1.elim⟩,fun h=>h.elim⟩)) (fn:=Tryz.f4) (by kernel_rfl) (by kernel_rfl) (Eq.mpr (by kernel_rfl) (Pb A k C Q m n)) g
end Go.Proofs.YtgledbghdhjgkaaGreatDoor
namespace Go.Proofs.YtgledbghdhjgkaaGreatDoor
open Go Go.TM
set_option maxRecDepth 100000
section
variable {w0:World} {A:Option Addr} {R O k C:Nat} {wd:Nat->Int} (hA:k=0\/A=some ⟨R,O,none⟩) (hY:ky Tryz.prog w0 (Xz R O k wd)) (hw:∀q,0<=wd q/\wd q < 18446744073709551616) (hk:k<=9223372036854775807)
include hA hY hw hk
theorem VX:aL Tryz.prog w0 (KO A R O k C wd)/\aL Tryz.prog w0 (QM A R O k C wd)/\aL Tryz.prog w0 (TR A R O k C wd)/\aL Tryz.prog w0 (Wt A R O k C wd)/\aL Tryz.prog w0 (Zj A R O k C wd)/\aL Tryz.prog w0 (ex6 A R O k C wd):=by
 have e1:=ok_ex1 (C:=C) hA hY hw hk
 have e2:=ok_ex2 hA hY hw hk e1
 have e3:=ok_ex3 hA hY hw hk e1 e2
 have e4:=ok_ex4 hA hY hw hk e1 e2 e3
 have e5:=ok_ex5 hA hY hw hk e1 e2 e3 e4
 exact⟨e1,e2,e3,e4,e5,ok_ex6 hA hY hw hk e1 e2 e3 e4 e5⟩
theorem exA_ok:aL Tryz.prog w0 (exA (.slice A k C) (QW O k wd)):=by
 obtain⟨e1,e2,e3,e4,e5,e6⟩:=VX (C:=C) hA hY hw hk
 refine aL.cons (fun l p xs R' h hp=>?_) (aL.cons (fun l p xs R' h hp=>?_) aL.none)
 ·split at h
  ·rename_i n x
   injection h with h;injection h with h1 h2;injection h2 with h2 h3;subst h1;subst h2;subst h3
   have hp:x=_:=hp
   subst hp
   refine⟨aO _ Tryz.f33 _ (by kernel_rfl) rfl,⟨_,_,List.mem_cons_self ..,[0,0,0,1],rfl,⟨fun h=>absurd h (by decide),by decide,by decide,by decide,by decide⟩,rfl⟩,fun g=>(KQ hA hY hw hk e1 e2 e3 e4 e5 e6 n g).mono ?_⟩
   rintro v g' ⟨⟨a,ha,ys,hl,hq,rfl⟩,hg⟩
   refine⟨?_,hg⟩
   simp only [y8,List.mem_cons,List.not_mem_nil,or_false] at ha
   subst ha
   obtain⟨r,c,d,e,rfl⟩:=len4 hl
   obtain⟨q1,q2⟩:=hq
   exact⟨_,List.mem_cons_self ..,[r,c,d,e],rfl,⟨fun h=>by
    obtain⟨p1,p2,p3,p4,p5,p6,_⟩:=q1 h
    exact⟨p1,p2,p3,p4,p5,p6⟩,q2⟩,rfl⟩
  ·cases h
 ·split at h
  ·rename_i m n x
   injection h with h;injection h with h1 h2;injection h2 with h2 h3;subst h1;subst h2;subst h3
   have hp:x=_:=hp
   subst hp
   refine⟨aO _ Tryz.f18 _ (by kernel_rfl) rfl,⟨_,_,List.mem_cons_self ..,[0,0,0,1],rfl,⟨fun h=>absurd h (by decide),by decide,by decide,by decide,by decide⟩,rfl⟩,fun g=>(VU hA hY hw hk e1 e2 e3 e4 e5 e6 m n g).mono ?_⟩
   rintro v g' ⟨⟨a,ha,ys,hl,hq,rfl⟩,hg⟩
   refine⟨?_,hg⟩
   simp only [Mw,List.mem_cons,List.not_mem_nil,or_false] at ha
   subst ha
   obtain⟨r,c,d,e,rfl⟩:=len4 hl
   exact⟨_,List.mem_cons_self ..,[r,c,d,e],rfl,hq,rfl⟩
  ·cases h
theorem exT_ok (hi:au Tryz.prog w0 its) (ht:ag w0 244) (ha:∀g,av Tryz.prog w0 6 [] g fun v g'=>bJ [] [⟨.b (some true),fun | []=>(fun | []=>True | _=>False) | _=>fun _=>False⟩] v/\g'=g):
  aL Tryz.prog w0 (exT A k C (QW O k wd)):=by
 obtain⟨e1,_⟩:=VX (C:=C) hA hY hw hk
 have hx:=exA_ok (C:=C) hA hY hw hk
 refine aL.cons (fun l p xs R' h hp=>?_) (aL.cons (fun l p xs R' h hp=>?_) (aL.cons (fun l p xs R' h hp=>?_) (aL.cons (fun l p xs R' h hp=>?_) aL.none)))
 ·split at h
  ·rename_i n x b
   injection h with h;injection h with h1 h2;injection h2 with h2 h3;subst h1;subst h2;subst h3
   obtain⟨rfl,rfl⟩:=hp
   exact⟨aO _ Tryz.f12 _ (by kernel_rfl) rfl,⟨_,_,List.mem_cons_self ..,[0,0,0,0,0,0],rfl,⟨by decide, .inl rfl⟩,rfl⟩,fun g=>QK hi ht hx n g⟩
  ·cases h
 ·split at h
  ·rename_i m n x w
   injection h with h;injection h with h1 h2;injection h2 with h2 h3;subst h1;subst h2;subst h3
   obtain⟨rfl,hq⟩:=hp
   exact⟨aO _ Tryz.f8 _ (by kernel_rfl) rfl,⟨_,_,List.mem_cons_self ..,[0,0,0,0,0,0,0,0,0],rfl,⟨by decide, .inl rfl⟩,rfl⟩,fun g=>QL hi ht hx m n w hq g⟩
  ·cases h
 ·split at h
  ·rename_i m n x s
   injection h with h;injection h with h1 h2;injection h2 with h2 h3;subst h1;subst h2;subst h3
   obtain⟨rfl,hq⟩:=hp
   refine⟨aO _ Tryz.f14 _ (by kernel_rfl) rfl,⟨_,_,List.mem_cons_self ..,[0],rfl,fun _=>rfl,rfl⟩,fun g=>?_⟩
   cases s with
   | true=>
    refine(VV hA hY hw hk e1 m n (hq rfl) g).mono ?_
    rintro v g' ⟨⟨a,ha,ys,hl,hq,rfl⟩,hg⟩
    refine⟨?_,hg⟩
    simp only [KM,List.mem_cons,List.not_mem_nil,or_false] at ha
    subst ha
    obtain⟨e,rfl⟩:=Xv hl
    exact⟨_,List.mem_cons_self ..,[e],rfl,hq,rfl⟩
   | false=>
    refine(VW hA hY hw hk e1 m n g).mono ?_
    rintro v g' ⟨⟨a,ha,ys,hl,hq,rfl⟩,hg⟩
    refine⟨?_,hg⟩
    simp only [KN,List.mem_cons,List.not_mem_nil,or_false] at ha
    subst ha
    obtain⟨e,rfl⟩:=Xv hl
    exact⟨_,List.mem_cons_self ..,[e],rfl,hq,rfl⟩
  ·cases h
 ·split at h
  ·injection h with h;injection h with h1 h2;injection h2 with h2 h3;subst h1;subst h2;subst h3
   exact⟨aO _ Tryz.f6 _ (by kernel_rfl) rfl,⟨_,_,List.mem_cons_self ..,[],rfl,trivial,rfl⟩,ha⟩
  ·cases h
theorem VY (hi:au Tryz.prog w0 its) (ht:ag w0 244) (ha:∀g,av Tryz.prog w0 6 [] g fun v g'=>bJ [] [⟨.b (some true),fun | []=>(fun | []=>True | _=>False) | _=>fun _=>False⟩] v/\g'=g) (m n:Int) (g:G):
  av Tryz.prog w0 4 [.i .i64 (some m), .i .i64 (some n), .val (.slice A k C)] g fun v g'=>bJ [] [⟨.b (some true),fun | []=>(fun | []=>True | _=>False) | _=>fun _=>False⟩] v/\g'=g:=
 Jz (exT_ok hA hY hw hk hi ht ha) m n g
end
end Go.Proofs.YtgledbghdhjgkaaGreatDoor
