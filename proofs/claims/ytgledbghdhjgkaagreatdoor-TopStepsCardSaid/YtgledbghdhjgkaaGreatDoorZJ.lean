/-
  A part of the proof that TopSteps answers true for every input that can be read as data.
-/
import Derived.Test.YtgledbghdhjgkaaGreatDoorZI
import Derived.KernelRfl
set_option linter.unusedSimpArgs false
set_option linter.unusedVariables false
namespace Go.TM
def Wq (α:Type):Nat->Type
 | 0=>α
 | n+1=>Int->Wq α n
def ap {α:Type} (d:α):(n:Nat)->Wq α n->List Int->α
 | 0,f,[]=>f
 | n+1,f,x::l=>ap d n (f x) l
 | _,_,_=>d
def fp (n:Nat) (f:Wq Prop n):List Int->Prop:=ap False n f
def fm (n:Nat) (f:Wq Int n):List Int->Int:=ap 0 n f
def fa (T:TV) (n:Nat) (f:Wq Prop n):Alt:=⟨T,fun xs ys=>ap False n f (xs++ys)⟩
def cu {α:Type} (n:Nat) (f:Wq (Nat->Option α) n):List Int->Nat->Option α:=ap (fun _=>none) n f
def no {α:Type}:List Int->Nat->Option α:=fun _ _=>none
def lk {α:Type}:List (Nat×α)->Nat->Option α
 | [],_=>none
 | (k,a)::l,q=>bif Nat.beq q k then some a else lk l q
def ll (h:List (Nat×TV)) (n:Nat) (p:Wq Prop n) (m:Wq Int n):LI:=⟨h,[],fp n p,fm n m,0,[]⟩
def lx (h:List (Nat×TV)) (ks:List Nat) (n:Nat) (p:Wq Prop n) (m:Wq Int n) (o:List (Nat×TV)):LI:=⟨h,ks,fp n p,fm n m,0,o⟩
def lu (n:Nat):LI:=⟨[],[],fun _=>True,fun _=>0,n,[]⟩
end Go.TM
namespace Go.Proofs.YtgledbghdhjgkaaGreatDoor
open Go Go.TM
set_option maxRecDepth 100000
abbrev I (x:Int):Prop:=-9223372036854775808<=x/\x<=9223372036854775807
abbrev IA (x:Int) (C:Prop):Prop:=-9223372036854775808<=x/\x<=9223372036854775807/\C
abbrev V (r c n:Int):Prop:=0<=r/\r<=512/\0<=c/\c<=512/\n=r*c
abbrev VA (r c n:Int) (C:Prop):Prop:=0<=r/\r<=512/\0<=c/\c<=512/\n=r*c/\C
abbrev AI (K:Int->Prop):Prop:=∀n,-9223372036854775808<=n->n<=9223372036854775807->K n
abbrev AL (K:Int->Prop):Prop:=∀n,0<=n->n<=1000000000->K n
abbrev IF (c A B:Prop):Prop:=(c->A)/\(¬c->B)
abbrev TT (A:Prop):Prop:=(True->A)/\(True->A)
abbrev E (A:Prop):Prop:=A\/False
abbrev K0 (x0 x1 x2 x3 x4 x5 x6:Int) (C:Prop):Prop:=0<=x0/\x0<=1/\0<=x1/\x1<=512/\0<=x2/\x2<=512/\0<=x3/\x3<=1000000000000/\0<=x4/\x4<=1000000/\0<=x5/\x5<=1000000/\x6<=1000000000/\C
abbrev K1 (x0 x1 x2 x3 x4 x5:Int) (C:Prop):Prop:=x0<=x0/\x0<=x0/\x1<=x1/\x1<=x1/\x2<=x2/\x2<=x2/\x3<=x3/\x3<=x3/\x4<=x4/\x4<=x4/\x5<=x5/\x5<=x5/\C
abbrev K2 (C:Prop):Prop:=(0:Int)<=0/\(0:Int)<=512/\(0:Int)<=0/\C
abbrev K3 (x0 x1 x2:Int) (C:Prop):Prop:=x0=x1*x2/\0<=x1/\x1<=512/\0<=x2/\x2<=512/\0<=x0/\x0<=262144/\C
abbrev K4 (x0 x1:Int) (C:Prop):Prop:=x0 - (x1+1) < x0 - x1/\0<=x0 - x1/\0<=x1+1/\C
abbrev K5 (x0 x1 x2:Int) (C:Prop):Prop:=0<=x0/\x0<=1000000000/\0<=x1/\x1<=1000000000/\0<=x2/\C
abbrev K6 (x0 x1 x2 x3 x4:Int) (C:Prop):Prop:=x0=0/\x1=0/\x2=0/\x3=0/\x4=0/\C
abbrev K7 (C:Prop):Prop:=(0:Int)<=512/\(0:Int)<=0/\(0:Int)<=262144/\C
abbrev K8 (x0 x1:Int) (C:Prop):Prop:=0<=x0/\x0+1<=x1/\C
abbrev K9 (C:Prop):Prop:=(0:Int)<=512/\(0:Int)<=0/\(0:Int)<=1000000000000/\(0:Int)<=0/\(0:Int)<=1000000/\(0:Int)<=0/\(0:Int)<=1000000/\(0:Int)<=1000000000/\C
abbrev iw (x0 x1:Int) (C:Prop):Prop:=0<=x0/\x0<=512/\0<=x1/\C
abbrev R3 (C:Prop):Prop:=(0:Int)<=0/\(0:Int)<=1000000000/\(0:Int)<=0/\C
abbrev wU (C:Prop):Prop:=(0:Int)=0/\(0:Int)=0/\C
abbrev iD (x0 x1:Int) (C:Prop):Prop:=x0<=1000000000/\0<=x1/\C
abbrev Tk (C:Prop):Prop:=(0:Int)<=0/\(0:Int)<=18446744073709551615/\C
abbrev Qz (x0 x1:Int) (C:Prop):Prop:=x0<=x0/\x0<=x0/\x1<=x1/\x1<=x1/\C
abbrev Tm (x0 x1:Int) (C:Prop):Prop:=x0<=1000000000/\x1<=1000000000/\C
abbrev wV (x0 x1:Int) (C:Prop):Prop:=0<=x0/\0<=x1/\x0<=1000000000/\C
abbrev R4 (x0 x1:Int) (C:Prop):Prop:=0<=x0/\x0<=1000000/\0<=x1/\x1<=1000000/\C
abbrev KA (x0 x1 x2 x3:Int) (C:Prop):Prop:=1<=x0/\0<=x1/\0<=x2/\x1<=x3 - x0/\C
abbrev MO (x0 x1:Int) (C:Prop):Prop:=x0 - (x1+1) < x0 - x1/\0<=x0 - x1/\C
abbrev Po (C:Prop):Prop:=(0:Int)<=0/\(0:Int)<=1/\C
abbrev zh (x0:Int) (C:Prop):Prop:=0<=x0/\x0<=262144/\C
abbrev bZ (x0 x1:Int) (C:Prop):Prop:=0<=x0/\x0 < x1/\C
abbrev Tn (C:Prop):Prop:=(0:Int)<=512/\(0:Int)<=0/\C
abbrev Zf (x0 x1 x2 x3 x4:Int) (C:Prop):Prop:=0<=x0/\x0+1<=x1 - x2*x3/\0<=x4/\x4+1<=x1 - x2*x3/\C
abbrev QA (x0 x1 x2 x3 x4 x5:Int) (C:Prop):Prop:=x0=0/\x1=x2/\0<=x3/\x3<=1/\x4=x5*x2/\C
abbrev K27 (C:Prop):Prop:=(0:Int)<=2047/\(0:Int)<=2047/\(2047:Int)<=18446744073709551615/\C
abbrev Zg (x0:Int) (C:Prop):Prop:=0<=x0/\x0<=18446744073709551615/\C
abbrev K29 (C:Prop):Prop:=(0:Int)<=4294967295/\(0:Int)<=4294967295/\(4294967295:Int)<=18446744073709551615/\C
abbrev nI (x0 x1:Int) (C:Prop):Prop:=0<=x0/\0<=x1/\C
abbrev iG (x0 x1:Int) (C:Prop):Prop:=x0=0/\x1=0/\C
abbrev wW (x0 x1 x2 x3 x4 x5:Int) (C:Prop):Prop:=V x0 x1 x2/\V x3 x4 x5/\C
abbrev K33 (x0:Int) (C:Prop):Prop:=0<=x0/\x0<=x0/\x0<=x0/\x0<=68719476736/\C
abbrev TP (x0 x1:Int) (C:Prop):Prop:=(2:Int)=0/\0=x0/\0=x1/\C
abbrev K35 (x0:Int) (C:Prop):Prop:=x0 - 1+1 < x0+1/\0<=x0+1/\-1<=x0 - 1/\C
abbrev K36 (x0 x1:Int) (C:Prop):Prop:=0<=x0*x1/\x0*x1<=18446744073709551615/\C
abbrev Fv (x0:Int) (C:Prop):Prop:=0<=x0/\x0<=512/\C
abbrev K38 (C:Prop):Prop:=(0:Int)<=4503599627370495/\(0:Int)<=4503599627370495/\(4503599627370495:Int)<=18446744073709551615/\C
abbrev TQ (x0:Int) (C:Prop):Prop:=0<=x0/\x0<=68719476736/\C
def DC:aab:=⟨[.f],fp 0 (True),[fa .f 0 (True)],false,0⟩
def pF:aab:=⟨[.f,.f],fp 0 (True),[fa .f 0 (True)],false,1⟩
def wX:aab:=⟨[.f],fp 0 (True),[fa (.b none) 0 (True)],false,2⟩
def wY:aab:=⟨[.f,.i .i64 (some 0)],fp 1 (fun k=>True),[fa (.b none) 1 (fun k=>True)],false,3⟩
def DD:aab:=⟨[.i .i64 (some 0)],fp 1 (fun k=>True),[fa .f 1 (fun k=>True)],false,4⟩
def Af:aab:=⟨[.f],fp 0 (True),[fa .f 0 (True)],false,5⟩
def wZ:aab:=⟨[.s [.f] (some 0)],fp 1 (fun n=>0<=n/\n<=68719476736),[fa .f 1 (fun n=>True)],false,6⟩
def tV:aab:=⟨[.f,.f],fp 0 (True),[fa .f 0 (True)],false,7⟩
def w9:aab:=⟨[.f,.f],fp 0 (True),[fa .f 0 (True)],false,8⟩
def fE:aab:=⟨[.s [.f] (some 0)],fp 1 (fun n=>0<=n/\n<=1073741824),[fa (.s [.f] (some 0)) 2 (fun n m=>m=n)],false,9⟩
def kR:aab:=⟨[.f],fp 0 (True),[fa (.b none) 0 (True)],false,10⟩
def tX:aab:=⟨[.f],fp 0 (True),[fa (.b none) 0 (True)],false,11⟩
def tY:aab:=⟨[.f],fp 0 (True),[fa (.b none) 0 (True)],false,12⟩
def pG:aab:=⟨[.f],fp 0 (True),[fa (.b none) 0 (True)],false,13⟩
def mq:aab:=⟨[.f],fp 0 (True),[fa (.b none) 0 (True)],false,14⟩
def mr:aab:=⟨[.f],fp 0 (True),[fa (.b none) 0 (True)],false,15⟩
def tZ:aab:=⟨[.i .u64 none],fp 0 (True),[fa (.i .i64 none) 0 (True)],false,16⟩
def rz:aab:=⟨[.i .u64 none],fp 0 (True),[fa (.b none) 0 (True)],false,17⟩
def xe:aab:=⟨[.i .u64 none],fp 0 (True),[fa (.i .u64 none) 0 (True)],false,18⟩
def rA:aab:=⟨[.i .u64 none],fp 0 (True),[fa (.b none) 0 (True)],false,19⟩
def dW:aab:=⟨[.s [.f] (some 0),.fn 135 [] []],fp 1 (fun n=>0<=n/\n<=68719476736),[fa (.i .i64 (some 0)) 2 (fun n k=>-1<=k/\k<n)],false,20⟩
def dI:aab:=⟨[.s [.f] (some 0),.fn 135 [] []],fp 1 (fun n=>0<=n/\n<=68719476736),[fa (.b none) 1 (fun n=>True)],false,21⟩
def dP:aab:=⟨[.s [.f] (some 0),.fn 273 [] []],fp 1 (fun n=>0<=n/\n<=68719476736),[fa (.i .i64 (some 0)) 2 (fun n k=>-1<=k/\k<n)],false,22⟩
def dE:aab:=⟨[.s [.f] (some 0),.fn 273 [] []],fp 1 (fun n=>0<=n/\n<=68719476736),[fa (.b none) 1 (fun n=>True)],false,23⟩
def dM:aab:=⟨[.s [.f] (some 0),.fn 235 [] []],fp 1 (fun n=>0<=n/\n<=68719476736),[fa (.i .i64 (some 0)) 2 (fun n k=>-1<=k/\k<n)],false,24⟩
def dz:aab:=⟨[.s [.f] (some 0),.fn 235 [] []],fp 1 (fun n=>0<=n/\n<=68719476736),[fa (.b none) 1 (fun n=>True)],false,25⟩
def dJ:aab:=⟨[.s [.f] (some 0),.fn 110 [] []],fp 1 (fun n=>0<=n/\n<=68719476736),[fa (.i .i64 (some 0)) 2 (fun n k=>-1<=k/\k<n)],false,26⟩
def dh:aab:=⟨[.s [.f] (some 0),.fn 110 [] []],fp 1 (fun n=>0<=n/\n<=68719476736),[fa (.b none) 1 (fun n=>True)],false,27⟩
def dF:aab:=⟨[.s [.f] (some 0),.fn 160 [] []],fp 1 (fun n=>0<=n/\n<=68719476736),[fa (.i .i64 (some 0)) 2 (fun n k=>-1<=k/\k<n)],false,28⟩
def bW:aab:=⟨[.s [.f] (some 0),.fn 160 [] []],fp 1 (fun n=>0<=n/\n<=68719476736),[fa (.b none) 1 (fun n=>True)],false,29⟩
def dA:aab:=⟨[.s [.f] (some 0),.fn 241 [] []],fp 1 (fun n=>0<=n/\n<=68719476736),[fa (.i .i64 (some 0)) 2 (fun n k=>-1<=k/\k<n)],false,30⟩
def bT:aab:=⟨[.s [.f] (some 0),.fn 241 [] []],fp 1 (fun n=>0<=n/\n<=68719476736),[fa (.b none) 1 (fun n=>True)],false,31⟩
def eO:aab:=⟨[.s [.i .u64 none] (some 0),.fn 94 [] []],fp 1 (fun n=>0<=n/\n<=68719476736),[fa (.i .i64 (some 0)) 2 (fun n k=>-1<=k/\k<n)],false,32⟩
def dQ:aab:=⟨[.s [.i .u64 none] (some 0),.fn 94 [] []],fp 1 (fun n=>0<=n/\n<=68719476736),[fa (.b none) 1 (fun n=>True)],false,33⟩
def pI:aab:=⟨[.i .u64 none],fp 0 (True),[fa (.b none) 0 (True)],false,34⟩
def nJ:aab:=⟨[.f],fp 0 (True),[fa (.aF [.f, .i .i64 (some 0)]) 1 (fun k=>-52<=k/\k<=0)],false,35⟩
def xg:aab:=⟨[.f,.i .i64 (some 0)],fp 1 (fun p=>-10000<=p/\p<=10000),[fa .f 1 (fun p=>True)],false,36⟩
def xh:aab:=⟨[.f,.i .i64 (some 0)],fp 1 (fun p=>-10000<=p/\p<=10000),[fa .f 1 (fun p=>True)],false,37⟩
def uf:aab:=⟨[.f,.i .i64 (some 0)],fp 1 (fun p=>True),[fa .f 1 (fun p=>True)],false,38⟩
def Ah:aab:=⟨[.s [.f] (some 0)],fp 1 (fun n=>0<=n/\n<=68719476736),[fa (.b none) 1 (fun n=>True)],false,39⟩
def Ai:aab:=⟨[.s [.f] (some 0)],fp 1 (fun n=>0<=n/\n<=68719476736),[fa (.b none) 1 (fun n=>True)],false,40⟩
def pJ:aab:=⟨[.s [.f] (some 0)],fp 1 (fun n=>0<=n/\n<=68719476736),[fa (.b none) 1 (fun n=>True)],false,41⟩
def ug:aab:=⟨[.agg [.i .i64 (some 0), .i .i64 (some 0), .s [.f] (some 0)]],fp 3 (fun r c n=>True),[fa (.b (some true)) 3 (fun r c n=>V r c n),fa (.b (some false)) 3 (fun r c n=>¬V r c n)],true,42⟩
def nK:aab:=⟨[.i .i64 (some 0),.p [.s [.f] (some 0), .f],.p [.i .i64 (some 0), .i .i64 (some 0), .s [.f] (some 0)],.p [.i .i64 (some 0)],.p [.i .i64 (some 0)]],fp 7 (fun i v r c m a k=>bZ i v (0<=a/\a+v<=r/\bZ k c (r<=512/\c<=512/\m=r*c))),[fa .f 7 (fun i v r c m a k=>True)],false,43⟩
def uh:aab:=⟨[.i .i64 (some 0),.fn 224 [] [.p [.s [.f] (some 0), .f], .p [.i .i64 (some 0), .i .i64 (some 0), .s [.f] (some 0)], .p [.i .i64 (some 0)], .p [.i .i64 (some 0)]]],fp 7 (fun n v r c m a k=>0<=n/\n<=v/\0<=a/\a+v<=r/\bZ k c (r<=512/\c<=512/\m=r*c)),[fa .f 7 (fun n v r c m a k=>True)],false,44⟩
def rC:aab:=⟨[.agg [.i .i64 (some 0), .i .i64 (some 0), .s [.f] (some 0)],.i .i64 (some 0),.i .i64 (some 0),.agg [.s [.f] (some 0), .f]],fp 6 (fun r c m a f v=>TQ v (0<=m/\m<=68719476736)),[fa (.aF [.agg [.i .i64 (some 0), .i .i64 (some 0), .s [.f] (some 0)], .i .i64 (some 0)]) 10 (fun r c m a f v r2 c2 m2 e=>K3 m2 r2 c2 (IF (VA r c m (KA v a f r (f<=c))) (e=0/\r2=r/\c2=c/\m2=m) (e≠0/\iG r2 c2 (m2=0))))],false,45⟩
def DF:aab:=⟨[.s [.i .u64 none] (some 0)],fp 1 (fun n=>0<=n/\n<=68719476736),[fa (.s [.i .u64 none] (some 0)) 2 (fun n m=>0<=m/\m<=n)],false,46⟩
def DI:aab:=⟨[.s [.p [.s [.i .u64 none] none]] (some 0)],fp 1 (fun k=>0<=k/\k<=68719476736),[fa (.i .i64 (some 0)) 2 (fun k e=>e=0\/e=2)],false,47⟩
def DJ:aab:=⟨[.s [.i .u64 none] (some 0)],fp 1 (fun n=>0<=n/\n<=68719476736),[fa (.aF [.s [.i .u64 none] (some 0), .i .i64 (some 0)]) 3 (fun n m e=>0<=m/\m<=4096)],false,48⟩
def KC:aab:=⟨[.i .u64 none],fp 0 (True),[fa (.s [.i .u64 none] (some 0)) 1 (fun m=>0<=m/\m<=1)],false,49⟩
def fT:aab:=⟨[.s [.i .u64 none] (some 0)],fp 1 (fun n=>0<=n/\n<=1073741824),[fa (.s [.i .u64 none] (some 0)) 2 (fun n m=>m=n)],false,50⟩
def DK:aab:=⟨[.s [.i .u64 none] (some 0)],fp 1 (fun n=>0<=n/\n<=1000000000),[fa (.aF [.s [.i .u64 none] (some 0), .i .i64 (some 0)]) 3 (fun n m e=>0<=m/\m<=1000000000)],false,51⟩
def G6:aab:=⟨[.s [.i .u64 none] (some 0),.s [.i .u64 none] (some 0)],fp 2 (fun n m=>nI n m (n<=68719476736)),[fa (.i .i64 (some 0)) 3 (fun n m c=>-1<=c/\c<=1)],false,52⟩
def G7:aab:=⟨[.s [.i .u64 none] (some 0),.s [.i .u64 none] (some 0)],fp 2 (fun n m=>wV n m (m<=1000000000)),[fa (.aF [.i .i64 (some 0), .i .i64 (some 0)]) 4 (fun n m c e=>-1<=c/\c<=1)],false,53⟩
def Aj:aab:=⟨[.i .u64 none,.i .u64 none,.p [.rg .u64 1]],fp 0 (True),[fa (.i .u64 none) 0 (True)],false,54⟩
def G8:aab:=⟨[.s [.i .u64 none] (some 0),.s [.i .u64 none] (some 0)],fp 2 (fun n m=>wV n m (m<=1000000000)),[fa (.aF [.s [.i .u64 none] (some 0), .i .i64 (some 0)]) 4 (fun n m k e=>0<=k/\k<=4096)],false,55⟩
def G9:aab:=⟨[.s [.i .u64 none] (some 0),.s [.i .u64 none] (some 0)],fp 2 (fun n m=>wV n m (m<=1000000000)),[fa (.s [.i .u64 none] (some 0)) 3 (fun n m k=>0<=k/\k<=n)],false,56⟩
def Ha:aab:=⟨[.s [.i .u64 none] (some 0),.s [.i .u64 none] (some 0)],fp 2 (fun n m=>wV n m (m<=1000000000)),[fa (.aF [.s [.i .u64 none] (some 0), .i .i64 (some 0)]) 4 (fun n m k e=>0<=k/\k<=1000000000)],false,57⟩
def mD:aab:=⟨[.i .u64 none,.i .u64 none],fp 0 (True),[fa (.aF [.i .u64 none, .i .u64 none]) 0 (True)],false,58⟩
def Hd:aab:=⟨[.s [.i .u64 none] (some 0),.s [.i .u64 none] (some 0),.i .u64 none],fp 2 (fun o a=>0<=a/\a<=o/\o<=68719476736),[fa (.i .u64 none) 2 (fun o a=>True)],false,59⟩
def He:aab:=⟨[.s [.i .u64 none] (some 0),.s [.i .u64 none] (some 0)],fp 2 (fun n m=>wV n m (m<=1000000000)),[fa (.aF [.s [.i .u64 none] (some 0), .i .i64 (some 0)]) 4 (fun n m k e=>0<=k/\k<=4096)],false,60⟩
def Hf:aab:=⟨[.s [.i .u64 none] (some 0),.i .i64 (some 0)],fp 2 (fun n k=>0<=n/\n<=1000000000/\(n=0\/0<=k/\k<262144)),[fa (.s [.i .u64 none] (some 0)) 3 (fun n k m=>0<=m/\m<=n+4097)],false,61⟩
def Hg:aab:=⟨[.s [.i .u64 none] (some 0),.i .i64 (some 0)],fp 2 (fun n k=>0<=n/\n<=1000000000),[fa (.aF [.s [.i .u64 none] (some 0), .i .i64 (some 0)]) 4 (fun n k m e=>0<=m/\m<=4096)],false,62⟩
def Hl:aab:=⟨[.s [.i .u64 none] (some 0),.i .i64 (some 0)],fp 2 (fun n k=>0<=n/\iD n k (k<=9223372036854775807)),[fa (.aF [.s [.i .u64 none] (some 0), .b none]) 3 (fun n k m=>0<=m/\m<=n)],false,63⟩
def Hm:aab:=⟨[.s [.i .u64 none] (some 0),.i .i64 (some 0)],fp 2 (fun n k=>0<=n/\n<=1000000000/\I k),[fa (.aF [.s [.i .u64 none] (some 0), .b none, .i .i64 (some 0)]) 4 (fun n k m e=>0<=m/\m<=1000000000)],false,64⟩
def Ak:aab:=⟨[.s [.i .u64 none] (some 0)],fp 1 (fun n=>0<=n/\n<=1000000000),[fa (.aF [.i .i64 none, .i .i64 none]) 1 (fun n=>True)],false,65⟩
def Ho:aab:=⟨[.f],fp 0 (True),[fa (.i .u64 none) 0 (True)],false,66⟩
def xk:aab:=⟨[.i .u64 none],fp 0 (True),[fa (.i .i64 none) 0 (True)],false,67⟩
def xm:aab:=⟨[.i .u64 none],fp 0 (True),[fa (.aF [.agg [.b none, .i .u64 none, .i .i64 none], .i .i64 none]) 0 (True)],false,68⟩
def ui:aab:=⟨[.i .i64 (some 0)],fp 1 (fun e=>True),[fa (.b none) 1 (fun e=>True)],false,69⟩
def DL:aab:=⟨[.agg [.b none, .s [.i .u64 none] none, .i .i64 none]],fp 0 (True),[fa (.b none) 0 (True)],false,70⟩
def Al:aab:=⟨[.agg [.b none, .s [.i .u64 none] none, .i .i64 none]],fp 0 (True),[fa (.agg [.b none, .s [.i .u64 none] none, .i .i64 none]) 0 (True)],false,71⟩
def Am:aab:=⟨[.agg [.b none, .s [.i .u64 none] none, .i .i64 none]],fp 0 (True),[fa (.aF [.agg [.b none, .s [.i .u64 none] none, .i .i64 none], .i .i64 none]) 0 (True)],false,72⟩
def Ao:aab:=⟨[.s [.p [.b none, .s [.i .u64 none] none, .i .i64 none]] (some 0)],fp 1 (fun k=>0<=k/\k<=68719476736),[fa (.i .i64 none) 1 (fun k=>True)],false,73⟩
def Hq:aab:=⟨[.f],fp 0 (True),[fa (.aF [.agg [.b none, .s [.i .u64 none] none, .i .i64 none], .i .i64 none]) 0 (True)],false,74⟩
def xq:aab:=⟨[.i .i64 (some 0)],fp 1 (fun n=>0<=n/\n<=9223372036854775807),[fa (.agg [.b none, .s [.i .u64 none] none, .i .i64 none]) 1 (fun n=>True)],false,75⟩
def mE:aab:=⟨[.agg [.i .i64 none],.agg [.b none, .s [.i .u64 none] none, .i .i64 none]],fp 0 (True),[fa (.s [.i .u64 none] (some 0)) 1 (fun m=>0<=m/\m<=4096)],false,76⟩
def xu:aab:=⟨[.agg [.b none, .s [.i .u64 none] none, .i .i64 none],.agg [.b none, .s [.i .u64 none] none, .i .i64 none]],fp 0 (True),[fa (.aF [.agg [.i .i64 none, .s [.i .u64 none] none, .s [.i .u64 none] none], .i .i64 none]) 0 (True)],false,77⟩
def xw:aab:=⟨[.b none,.s [.i .u64 none] (some 0),.i .i64 (some 0),.p [.i .i64 none, .s [.i .u64 none] none, .s [.i .u64 none] none]],fp 2 (fun n e=>0<=n/\n<=1000000000),[fa (.aF [.agg [.b none, .s [.i .u64 none] none, .i .i64 none], .i .i64 none]) 2 (fun n e=>True)],false,78⟩
def DN:aab:=⟨[.agg [.b none, .s [.i .u64 none] none, .i .i64 none],.agg [.b none, .s [.i .u64 none] none, .i .i64 none]],fp 0 (True),[fa (.aF [.agg [.b none, .s [.i .u64 none] none, .i .i64 none], .i .i64 none]) 0 (True)],false,79⟩
def DT:aab:=⟨[.agg [.b none, .s [.i .u64 none] none, .i .i64 none],.agg [.b none, .s [.i .u64 none] none, .i .i64 none]],fp 0 (True),[fa (.aF [.agg [.b none, .s [.i .u64 none] none, .i .i64 none], .i .i64 none]) 0 (True)],false,80⟩
def DU:aab:=⟨[.agg [.b none, .s [.i .u64 none] none, .i .i64 none],.agg [.b none, .s [.i .u64 none] none, .i .i64 none]],fp 0 (True),[fa (.aF [.agg [.b none, .s [.i .u64 none] none, .i .i64 none], .i .i64 none]) 0 (True)],false,81⟩
def Ap:aab:=⟨[.agg [.b none, .s [.i .u64 none] none, .i .i64 none]],fp 0 (True),[fa (.i .i64 (some 0)) 1 (fun c=>-1<=c/\c<=1)],false,82⟩
def DV:aab:=⟨[.agg [.b none, .s [.i .u64 none] none, .i .i64 none],.agg [.b none, .s [.i .u64 none] none, .i .i64 none]],fp 0 (True),[fa (.aF [.i .i64 (some 0), .i .i64 none]) 1 (fun c=>-1<=c/\c<=1)],false,83⟩
def xx:aab:=⟨[.agg [.b none, .s [.i .u64 none] none, .i .i64 none],.i .i64 (some 0)],fp 1 (fun k=>True),[fa (.aF [.agg [.b none, .s [.i .u64 none] none, .i .i64 none], .i .i64 none]) 1 (fun k=>True)],false,84⟩
def DW:aab:=⟨[.s [.b none, .s [.i .u64 none] none, .i .i64 none] (some 0),.s [.b none, .s [.i .u64 none] none, .i .i64 none] (some 0)],fp 2 (fun n m=>nI n m (n<=68719476736)),[fa (.aF [.agg [.b none, .s [.i .u64 none] none, .i .i64 none], .i .i64 none]) 2 (fun n m=>True)],false,85⟩
def xy:aab:=⟨[.agg [.i .i64 (some 0), .i .i64 (some 0), .s [.f] (some 0)]],fp 3 (fun r c n=>0<=n/\n<=1000000000),[fa (.b (some true)) 3 (fun r c n=>¬V r c n),fa (.b (some false)) 3 (fun r c n=>¬¬V r c n)],true,86⟩
def di:aab:=⟨[.oC [.i .i64 (some 0), .i .i64 (some 0), .s [.f] (some 0)] 1,.fn 108 [] []],fp 3 (fun r0 c0 n0=>0<=n0/\n0<=1000000000),[fa (.i .i64 (some 0)) 4 (fun r0 c0 n0 k=>k=-1/\V r0 c0 n0\/0<=k/\¬V r0 c0 n0)],false,87⟩
def bQ:aab:=⟨[.oC [.i .i64 (some 0), .i .i64 (some 0), .s [.f] (some 0)] 1,.fn 108 [] []],fp 3 (fun r0 c0 n0=>0<=n0/\n0<=1000000000),[fa (.b (some true)) 3 (fun r0 c0 n0=>¬V r0 c0 n0),fa (.b (some false)) 3 (fun r0 c0 n0=>¬¬V r0 c0 n0)],true,88⟩
def DX:aab:=⟨[.oC [.i .i64 (some 0), .i .i64 (some 0), .s [.f] (some 0)] 1],fp 3 (fun r0 c0 n0=>0<=n0/\n0<=1000000000),[fa (.b (some true)) 3 (fun r0 c0 n0=>V r0 c0 n0),fa (.b (some false)) 3 (fun r0 c0 n0=>¬V r0 c0 n0)],true,89⟩
def bX:aab:=⟨[.oC [.i .i64 (some 0), .i .i64 (some 0), .s [.f] (some 0), .i .i64 (some 0), .i .i64 (some 0), .s [.f] (some 0)] 2,.fn 108 [] []],fp 6 (fun r0 c0 n0 r1 c1 n1=>0<=n0/\iD n0 n1 (n1<=1000000000)),[fa (.i .i64 (some 0)) 7 (fun r0 c0 n0 r1 c1 n1 k=>k=-1/\V r0 c0 n0/\V r1 c1 n1\/0<=k/\¬(V r0 c0 n0/\V r1 c1 n1))],false,90⟩
def bN:aab:=⟨[.oC [.i .i64 (some 0), .i .i64 (some 0), .s [.f] (some 0), .i .i64 (some 0), .i .i64 (some 0), .s [.f] (some 0)] 2,.fn 108 [] []],fp 6 (fun r0 c0 n0 r1 c1 n1=>0<=n0/\iD n0 n1 (n1<=1000000000)),[fa (.b (some true)) 6 (fun r0 c0 n0 r1 c1 n1=>¬(V r0 c0 n0/\V r1 c1 n1)),fa (.b (some false)) 6 (fun r0 c0 n0 r1 c1 n1=>¬¬(V r0 c0 n0/\V r1 c1 n1))],true,91⟩
def Aq:aab:=⟨[.oC [.i .i64 (some 0), .i .i64 (some 0), .s [.f] (some 0), .i .i64 (some 0), .i .i64 (some 0), .s [.f] (some 0)] 2],fp 6 (fun r0 c0 n0 r1 c1 n1=>0<=n0/\iD n0 n1 (n1<=1000000000)),[fa (.b (some true)) 6 (fun r0 c0 n0 r1 c1 n1=>V r0 c0 n0/\V r1 c1 n1),fa (.b (some false)) 6 (fun r0 c0 n0 r1 c1 n1=>¬(V r0 c0 n0/\V r1 c1 n1))],true,92⟩
def bU:aab:=⟨[.oC [.i .i64 (some 0), .i .i64 (some 0), .s [.f] (some 0), .i .i64 (some 0), .i .i64 (some 0), .s [.f] (some 0), .i .i64 (some 0), .i .i64 (some 0), .s [.f] (some 0)] 3,.fn 108 [] []],fp 9 (fun r0 c0 n0 r1 c1 n1 r2 c2 n2=>K5 n0 n1 n2 (n2<=1000000000)),[fa (.i .i64 (some 0)) 10 (fun r0 c0 n0 r1 c1 n1 r2 c2 n2 k=>k=-1/\wW r0 c0 n0 r1 c1 n1 (V r2 c2 n2)\/0<=k/\¬wW r0 c0 n0 r1 c1 n1 (V r2 c2 n2))],false,93⟩
def bM:aab:=⟨[.oC [.i .i64 (some 0), .i .i64 (some 0), .s [.f] (some 0), .i .i64 (some 0), .i .i64 (some 0), .s [.f] (some 0), .i .i64 (some 0), .i .i64 (some 0), .s [.f] (some 0)] 3,.fn 108 [] []],fp 9 (fun r0 c0 n0 r1 c1 n1 r2 c2 n2=>K5 n0 n1 n2 (n2<=1000000000)),[fa (.b (some true)) 9 (fun r0 c0 n0 r1 c1 n1 r2 c2 n2=>¬wW r0 c0 n0 r1 c1 n1 (V r2 c2 n2)),fa (.b (some false)) 9 (fun r0 c0 n0 r1 c1 n1 r2 c2 n2=>¬¬wW r0 c0 n0 r1 c1 n1 (V r2 c2 n2))],true,94⟩
def xA:aab:=⟨[.oC [.i .i64 (some 0), .i .i64 (some 0), .s [.f] (some 0), .i .i64 (some 0), .i .i64 (some 0), .s [.f] (some 0), .i .i64 (some 0), .i .i64 (some 0), .s [.f] (some 0)] 3],fp 9 (fun r0 c0 n0 r1 c1 n1 r2 c2 n2=>K5 n0 n1 n2 (n2<=1000000000)),[fa (.b (some true)) 9 (fun r0 c0 n0 r1 c1 n1 r2 c2 n2=>wW r0 c0 n0 r1 c1 n1 (V r2 c2 n2)),fa (.b (some false)) 9 (fun r0 c0 n0 r1 c1 n1 r2 c2 n2=>¬wW r0 c0 n0 r1 c1 n1 (V r2 c2 n2))],true,95⟩
def uj:aab:=⟨[.agg [.i .i64 (some 0), .i .i64 (some 0), .s [.f] (some 0)]],fp 3 (fun r c n=>0<=n/\n<=1000000000),[fa (.aF [.agg [.i .i64 (some 0), .i .i64 (some 0), .s [.f] (some 0)], .i .i64 (some 0)]) 7 (fun r c n r2 c2 n2 e=>(e=0/\r2=c/\c2=r/\n2=n\/e=2/\iG r2 c2 (n2=0))/\n2=r2*c2/\iw r2 c2 (c2<=512/\0<=n2/\n2<=262144))],false,96⟩
def xB:aab:=⟨[.s [.f] (some 0)],fp 1 (fun n=>0<=n/\n<=1000000000),[fa (.s [.b none, .s [.i .u64 none] none, .i .i64 none] (some 0)) 2 (fun n m=>m=n)],false,97⟩
def rD:aab:=⟨[.s [.b none, .s [.i .u64 none] none, .i .i64 none] (some 0)],fp 1 (fun n=>0<=n/\n<=1000000000),[fa (.aF [.agg [.b none, .s [.i .u64 none] none, .i .i64 none], .i .i64 none]) 1 (fun n=>True)],false,98⟩
def uk:aab:=⟨[.s [.s [.f] none] (some 0)],fp 1 (fun k=>0<=k/\k<=68719476736),[fa (.b none) 1 (fun k=>True)],false,99⟩
def Ar:aab:=⟨[.agg [.i .i64 (some 0), .i .i64 (some 0), .s [.f] (some 0)]],fp 3 (fun r c n=>0<=n/\n<=1000000000),[fa (.aF [.agg [.b none, .s [.i .u64 none] none, .i .i64 none], .i .i64 none]) 3 (fun r c n=>True)],false,100⟩
def xC:aab:=⟨[.i .i64 (some 0),.i .i64 (some 0)],fp 2 (fun m n=>True),[fa (.aF [.agg [.b none, .s [.i .u64 none] none, .i .i64 none], .i .i64 none]) 2 (fun m n=>True)],false,101⟩
def Hr:aab:=⟨[.agg [.i .i64 (some 0), .i .i64 (some 0), .s [.f] (some 0)]],fp 3 (fun r c n=>True),[fa (.agg [.i .i64 (some 0), .i .i64 (some 0)]) 5 (fun r c n a b=>a=r/\b=c)],false,102⟩
def Au:aab:=⟨[.s [.b none, .s [.i .u64 none] none, .i .i64 none] (some 0),.i .i64 (some 0),.i .i64 (some 0),.i .i64 (some 0)],fp 4 (fun l f g m=>TQ l (R4 f g (0<=m/\m<=1000000/\(1<=m->f+(m-1)*g<l)))),[fa (.s [.b none, .s [.i .u64 none] none, .i .i64 none] (some 0)) 5 (fun l f g m k=>k=m)],false,103⟩
def uo:aab:=⟨[.i .i64 (some 0),.i .i64 (some 0),.p [.s [.b none, .s [.i .u64 none] none, .i .i64 none] (some 0)],.p [.i .i64 (some 0), .i .i64 (some 0), .s [.f] (some 0)],.p [.b none, .s [.i .u64 none] none, .i .i64 none]],fp 6 (fun i k l r c n=>VA r c n (l=n/\bZ i c (0<=k/\k<c))),[fa (.aF [.agg [.b none, .s [.i .u64 none] none, .i .i64 none], .i .i64 none]) 6 (fun i k l r c n=>True)],false,104⟩
def mG:aab:=⟨[.i .i64 (some 0),.i .i64 (some 0),.p [.s [.b none, .s [.i .u64 none] none, .i .i64 none] (some 0)],.p [.i .i64 (some 0), .i .i64 (some 0), .s [.f] (some 0)],.p [.s [.b none, .s [.i .u64 none] none, .i .i64 none] (some 0)],.p [.i .i64 (some 0), .i .i64 (some 0), .s [.f] (some 0)],.p [.s [.b none, .s [.i .u64 none] none, .i .i64 none] (some 0)],.p [.i .i64 (some 0), .i .i64 (some 0), .s [.f] (some 0)],.p [.s [.b none, .s [.i .u64 none] none, .i .i64 none] (some 0)]],fp 15 (fun i k pl ar ac an ql xr xc xn rl yr yc yn sl=>VA ar ac an (pl=an/\ql=xn/\rl=yn/\sl=yc/\iw xr xc (xc<=512/\xr=ac/\xc=yc/\yr=ar/\xn=ac*xc/\yn=ar*yc/\bZ i yr (0<=k/\k<yc)))),[fa (.aF [.agg [.b none, .s [.i .u64 none] none, .i .i64 none], .i .i64 none]) 15 (fun i k pl ar ac an ql xr xc xn rl yr yc yn sl=>True)],false,105⟩
def rE:aab:=⟨[.agg [.i .i64 (some 0), .i .i64 (some 0)],.fn 120 [] [.p [.s [.b none, .s [.i .u64 none] none, .i .i64 none] (some 0)], .p [.i .i64 (some 0), .i .i64 (some 0), .s [.f] (some 0)], .p [.b none, .s [.i .u64 none] none, .i .i64 none]]],fp 6 (fun sr sc l r c n=>VA r c n (l=n/\sr=c/\sc=c)),[fa (.aF [.agg [.b none, .s [.i .u64 none] none, .i .i64 none], .i .i64 none]) 6 (fun sr sc l r c n=>True)],false,106⟩
def pK:aab:=⟨[.agg [.i .i64 (some 0), .i .i64 (some 0)],.fn 125 [] [.p [.s [.b none, .s [.i .u64 none] none, .i .i64 none] (some 0)], .p [.i .i64 (some 0), .i .i64 (some 0), .s [.f] (some 0)], .p [.s [.b none, .s [.i .u64 none] none, .i .i64 none] (some 0)], .p [.i .i64 (some 0), .i .i64 (some 0), .s [.f] (some 0)], .p [.s [.b none, .s [.i .u64 none] none, .i .i64 none] (some 0)], .p [.i .i64 (some 0), .i .i64 (some 0), .s [.f] (some 0)], .p [.s [.b none, .s [.i .u64 none] none, .i .i64 none] (some 0)]]],fp 15 (fun sr sc pl ar ac an ql xr xc xn rl yr yc yn sl=>VA ar ac an (pl=an/\ql=xn/\rl=yn/\sl=yc/\iw xr xc (xc<=512/\xr=ac/\xc=yc/\yr=ar/\xn=ac*xc/\yn=ar*yc/\sr=yr/\sc=yc))),[fa (.aF [.agg [.b none, .s [.i .u64 none] none, .i .i64 none], .i .i64 none]) 15 (fun sr sc pl ar ac an ql xr xc xn rl yr yc yn sl=>True)],false,107⟩
def Av:aab:=⟨[.agg [.i .i64 (some 0), .i .i64 (some 0), .s [.f] (some 0)]],fp 3 (fun r c n=>0<=n/\n<=1000000000),[fa (.aF [.agg [.b none, .s [.i .u64 none] none, .i .i64 none], .i .i64 none]) 3 (fun r c n=>True)],false,108⟩
def pM:aab:=⟨[.agg [.i .i64 (some 0), .i .i64 (some 0), .s [.f] (some 0)],.agg [.i .i64 (some 0), .i .i64 (some 0), .s [.f] (some 0)],.agg [.i .i64 (some 0), .i .i64 (some 0), .s [.f] (some 0)],.s [.f] (some 0)],fp 10 (fun ar ac an xr xc xn yr yc yn wl=>K5 wl an xn (iD xn yn (yn<=1000000000))),[fa (.aF [.agg [.b none, .s [.i .u64 none] none, .i .i64 none], .i .i64 none]) 10 (fun ar ac an xr xc xn yr yc yn wl=>True)],false,109⟩
def xD:aab:=⟨[.agg [.b none, .s [.i .u64 none] none, .i .i64 none],.i .i64 (some 0),.agg [.b none, .s [.i .u64 none] none, .i .i64 none],.agg [.b none, .s [.i .u64 none] none, .i .i64 none]],fp 1 (fun e=>I e),[fa (.aF [.b none, .i .i64 none]) 1 (fun e=>True)],false,110⟩
def xE:aab:=⟨[.p [.i .i64 (some 0), .i .i64 (some 0), .s [.f] (some 0)],.p [.b none, .s [.i .u64 none] none, .i .i64 none],.p [.b none, .s [.i .u64 none] none, .i .i64 none]],fp 3 (fun r c n=>V r c n),[fa (.aF [.b none, .i .i64 none]) 3 (fun r c n=>True)],false,111⟩
def xG:aab:=⟨[.p [.i .i64 (some 0), .i .i64 (some 0), .s [.f] (some 0)],.p [.b none, .s [.i .u64 none] none, .i .i64 none],.p [.b none, .s [.i .u64 none] none, .i .i64 none]],fp 3 (fun r c n=>V r c n),[fa (.aF [.b none, .i .i64 none]) 3 (fun r c n=>True)],false,112⟩
def xH:aab:=⟨[.p [.i .i64 (some 0), .i .i64 (some 0), .s [.f] (some 0)],.p [.i .i64 (some 0), .i .i64 (some 0), .s [.f] (some 0)],.p [.i .i64 (some 0), .i .i64 (some 0), .s [.f] (some 0)],.p [.s [.f] (some 0)],.p [.b none, .s [.i .u64 none] none, .i .i64 none],.p [.b none, .s [.i .u64 none] none, .i .i64 none]],fp 10 (fun ar ac an vr vc vn ur uc un s=>VA ar ac an (VA vr vc vn (VA ur uc un (0<=s/\s<=1000000000)))),[fa (.aF [.b none, .i .i64 none]) 10 (fun ar ac an vr vc vn ur uc un s=>True)],false,113⟩
def xI:aab:=⟨[.p [.i .i64 (some 0), .i .i64 (some 0), .s [.f] (some 0)],.p [.i .i64 (some 0), .i .i64 (some 0), .s [.f] (some 0)],.p [.i .i64 (some 0), .i .i64 (some 0), .s [.f] (some 0)],.p [.s [.f] (some 0)],.p [.b none, .s [.i .u64 none] none, .i .i64 none],.p [.b none, .s [.i .u64 none] none, .i .i64 none]],fp 10 (fun ar ac an ur uc un vr vc vn s=>VA ar ac an (VA ur uc un (VA vr vc vn (0<=s/\s<=1000000000)))),[fa (.aF [.b none, .i .i64 none]) 10 (fun ar ac an ur uc un vr vc vn s=>True)],false,114⟩
def DY:aab:=⟨[.oC [.fn 62 [] [.p [.i .i64 (some 0), .i .i64 (some 0), .s [.f] (some 0)], .p [.b none, .s [.i .u64 none] none, .i .i64 none], .p [.b none, .s [.i .u64 none] none, .i .i64 none]], .fn 65 [] [.p [.i .i64 (some 0), .i .i64 (some 0), .s [.f] (some 0)], .p [.b none, .s [.i .u64 none] none, .i .i64 none], .p [.b none, .s [.i .u64 none] none, .i .i64 none]], .fn 66 [] [.p [.i .i64 (some 0), .i .i64 (some 0), .s [.f] (some 0)], .p [.i .i64 (some 0), .i .i64 (some 0), .s [.f] (some 0)], .p [.i .i64 (some 0), .i .i64 (some 0), .s [.f] (some 0)], .p [.s [.f] (some 0)], .p [.b none, .s [.i .u64 none] none, .i .i64 none], .p [.b none, .s [.i .u64 none] none, .i .i64 none]], .fn 68 [] [.p [.i .i64 (some 0), .i .i64 (some 0), .s [.f] (some 0)], .p [.i .i64 (some 0), .i .i64 (some 0), .s [.f] (some 0)], .p [.i .i64 (some 0), .i .i64 (some 0), .s [.f] (some 0)], .p [.s [.f] (some 0)], .p [.b none, .s [.i .u64 none] none, .i .i64 none], .p [.b none, .s [.i .u64 none] none, .i .i64 none]]] 4],fp 26 (fun ur uc un vr vc vn ar ac an xr xc xn yr yc yn s tr tc tn pr pc pn qr qc qn z=>VA ur uc un (VA vr vc vn (VA ar ac an (VA xr xc xn (VA yr yc yn (0<=s/\s<=1000000000/\VA tr tc tn (VA pr pc pn (VA qr qc qn (0<=z/\z<=1000000000))))))))),[fa (.aF [.b none, .i .i64 none]) 26 (fun ur uc un vr vc vn ar ac an xr xc xn yr yc yn s tr tc tn pr pc pn qr qc qn z=>True)],false,115⟩
def DZ:aab:=⟨[.agg [.i .i64 (some 0), .i .i64 (some 0), .s [.f] (some 0)],.s [.f] (some 0),.agg [.i .i64 (some 0), .i .i64 (some 0), .s [.f] (some 0)],.agg [.i .i64 (some 0), .i .i64 (some 0), .s [.f] (some 0)]],fp 10 (fun ar ac an s ur uc un vr vc vn=>K5 s an un (iD un vn (vn<=1000000000))),[fa (.aF [.b none, .i .i64 none]) 10 (fun ar ac an s ur uc un vr vc vn=>True)],false,116⟩
def xJ:aab:=⟨[.p [.i .i64 (some 0), .i .i64 (some 0), .s [.f] (some 0)],.p [.b none, .s [.i .u64 none] none, .i .i64 none]],fp 3 (fun r c n=>V r c n),[fa (.aF [.b none, .i .i64 none]) 3 (fun r c n=>True)],false,117⟩
def xK:aab:=⟨[.p [.i .i64 (some 0), .i .i64 (some 0), .s [.f] (some 0)],.p [.i .i64 (some 0), .i .i64 (some 0), .s [.f] (some 0)],.p [.s [.f] (some 0)],.p [.b none, .s [.i .u64 none] none, .i .i64 none],.p [.b none, .s [.i .u64 none] none, .i .i64 none]],fp 7 (fun ar ac an zr zc zn s=>VA ar ac an (VA zr zc zn (0<=s/\s<=1000000000))),[fa (.aF [.b none, .i .i64 none]) 7 (fun ar ac an zr zc zn s=>True)],false,118⟩
def Aw:aab:=⟨[.oC [.fn 83 [] [.p [.i .i64 (some 0), .i .i64 (some 0), .s [.f] (some 0)], .p [.b none, .s [.i .u64 none] none, .i .i64 none]], .fn 84 [] [.p [.i .i64 (some 0), .i .i64 (some 0), .s [.f] (some 0)], .p [.i .i64 (some 0), .i .i64 (some 0), .s [.f] (some 0)], .p [.s [.f] (some 0)], .p [.b none, .s [.i .u64 none] none, .i .i64 none], .p [.b none, .s [.i .u64 none] none, .i .i64 none]]] 2],fp 10 (fun r c n ar ac an zr zc zn s=>VA r c n (VA ar ac an (VA zr zc zn (0<=s/\s<=1000000000)))),[fa (.aF [.b none, .i .i64 none]) 10 (fun r c n ar ac an zr zc zn s=>True)],false,119⟩
def kE:aab:=⟨[.f],fp 0 (True),[fa (.b none) 0 (True)],false,120⟩
def kS:aab:=⟨[.f,.f],fp 0 (True),[fa (.b none) 0 (True)],false,121⟩
def dZ:aab:=⟨[.s [.f] (some 0)],fp 1 (fun n=>0<=n/\n<=1000000000),[fa (.b none) 1 (fun n=>True)],false,122⟩
def D5:aab:=⟨[.agg [.i .i64 (some 0), .i .i64 (some 0), .s [.f] (some 0)],.s [.f] (some 0),.agg [.i .i64 (some 0), .i .i64 (some 0), .s [.f] (some 0)]],fp 7 (fun ar ac an s zr zc zn=>K5 s an zn (zn<=1000000000)),[fa (.aF [.b none, .i .i64 none]) 7 (fun ar ac an s zr zc zn=>True)],false,123⟩
def uq:aab:=⟨[.agg [.i .i64 (some 0), .i .i64 (some 0), .s [.f] (some 0)]],fp 3 (fun r c n=>0<=n/\True),[fa (.b (some true)) 3 (fun r c n=>iw r c (c<=512)),fa (.b (some false)) 3 (fun r c n=>¬iw r c (c<=512))],true,124⟩
def Ay:aab:=⟨[.agg [.i .i64 (some 0), .i .i64 (some 0), .s [.f] (some 0)]],fp 3 (fun r c n=>0<=n/\True),[fa (.b (some true)) 3 (fun r c n=>V r c n),fa (.b (some false)) 3 (fun r c n=>¬V r c n)],true,125⟩
def rF:aab:=⟨[.s [.f] (some 0)],fp 1 (fun n=>0<=n/\n<=1000000000),[fa (.b none) 1 (fun n=>True)],false,126⟩
def uu:aab:=⟨[.agg [.i .i64 (some 0), .i .i64 (some 0), .s [.f] (some 0)]],fp 3 (fun r c n=>0<=n/\n<=1000000000),[fa (.i .i64 (some 0)) 4 (fun r c n e=>(e=0->V r c n)/\0<=e/\e<=10)],false,127⟩
def uw:aab:=⟨[.agg [.i .i64 (some 0), .i .i64 (some 0), .s [.f] (some 0)],.i .i64 (some 0)],fp 4 (fun r c n p=>V r c n),[fa (.aF [.agg [.i .i64 (some 0), .i .i64 (some 0), .s [.f] (some 0)], .i .i64 (some 0)]) 8 (fun r c n p r2 c2 n2 e=>K3 n2 r2 c2 ((e=0->r2=r/\c2=c/\n2=n)/\r2<=r/\c2<=c))],false,128⟩
def xL:aab:=⟨[.f],fp 0 (True),[fa (.aF [.f, .i .i64 (some 0)]) 1 (fun k=>-10000<=k/\k<=10000)],false,129⟩
def xM:aab:=⟨[.f],fp 0 (True),[fa (.aF [.f, .i .i64 (some 0)]) 1 (fun k=>-10000<=k/\k<=10000)],false,130⟩
def uy:aab:=⟨[.agg [.i .i64 (some 0), .i .i64 (some 0), .s [.f] (some 0)]],fp 3 (fun r c n=>V r c n),[fa (.aF [.i .i64 (some 0), .i .i64 none]) 4 (fun r c n p=>-10000<=p/\p<=10000)],false,131⟩
def rG:aab:=⟨[.s [.f] (some 0)],fp 1 (fun n=>0<=n/\n<=1000000000),[fa (.aF [.agg [.s [.f] (some 0), .f], .f, .i .i64 none]) 2 (fun n v=>v=n)],false,132⟩
def mH:aab:=⟨[.i .i64 (some 0),.p [.i .i64 (some 0), .i .i64 (some 0), .s [.f] (some 0)],.p [.i .i64 (some 0)],.p [.i .i64 (some 0)],.p [.s [.f] (some 0), .f]],fp 7 (fun k r c m i a v=>bZ k v (bZ i r (0<=a/\a+v<=c/\r<=512/\c<=512/\m=r*c))),[fa .f 7 (fun k r c m i a v=>True)],false,133⟩
def rH:aab:=⟨[.i .i64 (some 0),.fn 232 [] [.p [.i .i64 (some 0), .i .i64 (some 0), .s [.f] (some 0)], .p [.i .i64 (some 0)], .p [.i .i64 (some 0)], .p [.s [.f] (some 0), .f]]],fp 7 (fun n r c m i a v=>0<=n/\n<=v/\bZ i r (0<=a/\a+v<=c/\r<=512/\c<=512/\m=r*c)),[fa .f 7 (fun n r c m i a v=>True)],false,134⟩
def pO:aab:=⟨[.agg [.i .i64 (some 0), .i .i64 (some 0), .s [.f] (some 0)],.i .i64 (some 0),.i .i64 (some 0),.agg [.s [.f] (some 0), .f]],fp 6 (fun r c m a f v=>0<=v/\iD v m (m<=1000000000)),[fa (.aF [.agg [.i .i64 (some 0), .i .i64 (some 0), .s [.f] (some 0)], .i .i64 (some 0)]) 10 (fun r c m a f v r2 c2 m2 e=>K3 m2 r2 c2 (IF (VA r c m (KA v a f c (f<=r))) (e=0/\r2=r/\c2=c/\m2=m) (e≠0/\iG r2 c2 (m2=0))))],false,135⟩
def KD:aab:=⟨[.agg [.i .i64 (some 0), .i .i64 (some 0), .s [.f] (some 0)]],fp 3 (fun r c n=>0<=n/\True),[fa (.b (some true)) 3 (fun r c n=>V r c n),fa (.b (some false)) 3 (fun r c n=>¬V r c n)],true,136⟩
def KE:aab:=⟨[.agg [.i .i64 (some 0), .i .i64 (some 0), .s [.f] (some 0)]],fp 3 (fun r c n=>0<=n/\True),[fa (.b (some true)) 3 (fun r c n=>V r c n),fa (.b (some false)) 3 (fun r c n=>¬V r c n)],true,137⟩
def uz:aab:=⟨[.agg [.s [.f] (some 0), .s [.f] (some 0)]],fp 2 (fun d e=>0<=d/\0<=e),[fa (.b (some true)) 2 (fun d e=>d<=512/\e=max (d-1) 0),fa (.b (some false)) 2 (fun d e=>¬(d<=512/\e=max (d-1) 0))],true,138⟩
def KF:aab:=⟨[.agg [.s [.f] (some 0), .s [.f] (some 0)]],fp 2 (fun d e=>0<=d/\0<=e),[fa (.b (some true)) 2 (fun d e=>d<=512/\e=max (d-1) 0),fa (.b (some false)) 2 (fun d e=>¬(d<=512/\e=max (d-1) 0))],true,139⟩
def pQ:aab:=⟨[.pb [.s [.f] (some 0), .s [.f] (some 0), .i .i64 (some 0), .i .i64 (some 0), .s [.f] (some 0)],.i .i64 (some 0),.f,.f],fp 6 (fun n e r c m i=>VA r c m (0<=i/\i+1<c)),[fa (.aF []) 6 (fun n e r c m i=>True)],false,140⟩
def rJ:aab:=⟨[.pb [.s [.f] (some 0), .s [.f] (some 0), .i .i64 (some 0), .i .i64 (some 0), .s [.f] (some 0)],.i .i64 (some 0)],fp 6 (fun n e r c m l=>bZ l n (n<=e/\n<=68719476736)),[fa (.i .i64 (some 0)) 7 (fun n e r c m l k=>l<=k/\k<=n-1)],false,141⟩
def nL:aab:=⟨[.pb [.s [.f] (some 0), .s [.f] (some 0), .i .i64 (some 0), .i .i64 (some 0), .s [.f] (some 0)],.i .i64 (some 0),.i .i64 (some 0)],fp 7 (fun n e r c m l q=>VA r c m (bZ l q (q<n/\n<=e/\c=n))),[fa (.aF []) 7 (fun n e r c m l q=>True)],false,142⟩
def Az:aab:=⟨[.s [.f] (some 0),.agg [.i .i64 (some 0), .i .i64 (some 0), .s [.f] (some 0)]],fp 4 (fun n r c m=>VA r c m (0<=n/\n<=1000000000)),[fa (.aF [.s [.f] (some 0), .agg [.i .i64 (some 0), .i .i64 (some 0), .s [.f] (some 0)], .i .i64 (some 0)]) 9 (fun n r c m k yr yc yn e=>K3 yn yr yc (0<=k/\k<=1000000000))],false,143⟩
def D6:aab:=⟨[.agg [.s [.f] (some 0), .s [.f] (some 0)],.agg [.i .i64 (some 0), .i .i64 (some 0), .s [.f] (some 0)]],fp 5 (fun d e r c m=>K5 m d e (e<=1000000000)),[fa (.aF [.s [.f] (some 0), .agg [.i .i64 (some 0), .i .i64 (some 0), .s [.f] (some 0)], .i .i64 (some 0), .i .i64 none]) 10 (fun d e r c m k yr yc yn s=>K3 yn yr yc (0<=k/\iD k s (s<=30*d)))],false,144⟩
def Ht:aab:=⟨[.f,.f,.p [.f],.p [.f]],fp 0 (True),[fa (.aF [.f, .f]) 0 (True)],false,145⟩
def OH:aab:=⟨[.f,.f],fp 0 (True),[fa (.fn 299 [] [.p [.f], .p [.f]]) 0 (True)],false,146⟩
def uA:aab:=⟨[.f,.f],fp 0 (True),[fa (.aF [.f, .f]) 0 (True)],false,147⟩
def xN:aab:=⟨[.f,.f],fp 0 (True),[fa (.aF [.f, .f]) 0 (True)],false,148⟩
def uB:aab:=⟨[.i .i64 (some 0)],fp 1 (fun e=>True),[fa (.aF [.s [.f] (some 0), .agg [.i .i64 (some 0), .i .i64 (some 0), .s [.f] (some 0)], .agg [.i .i64 (some 0), .i .i64 (some 0), .s [.f] (some 0)], .i .i64 (some 0)]) 9 (fun e k xr xc xn yr yc yn f=>K6 k xr xc xn yr (iG yc yn (f=e/\xn=xr*xc/\yn=yr*yc)))],false,149⟩
def xO:aab:=⟨[.i .i64 (some 0),.i .i64 (some 0)],fp 2 (fun s e=>True),[fa (.aF [.s [.f] (some 0), .agg [.i .i64 (some 0), .i .i64 (some 0), .s [.f] (some 0)], .agg [.i .i64 (some 0), .i .i64 (some 0), .s [.f] (some 0)], .i .i64 (some 0), .i .i64 (some 0)]) 11 (fun s e k xr xc xn yr yc yn z f=>K6 k xr xc xn yr (iG yc yn (z=s/\f=e/\xn=xr*xc/\yn=yr*yc)))],false,150⟩
def xP:aab:=⟨[.agg [.i .i64 (some 0), .i .i64 (some 0), .s [.f] (some 0)],.i .i64 (some 0),.i .i64 (some 0),.fn 299 [] [.p [.f], .p [.f]]],fp 5 (fun r c m i k=>VA r c m (bZ i c (0<=k/\k<c))),[fa (.aF []) 5 (fun r c m i k=>True)],false,151⟩
def uC:aab:=⟨[.agg [.i .i64 (some 0), .i .i64 (some 0), .s [.f] (some 0)],.i .i64 (some 0),.i .i64 (some 0),.fn 240 [] []],fp 5 (fun r c m i k=>VA r c m (bZ i c (0<=k/\k<c))),[fa (.aF []) 5 (fun r c m i k=>True)],false,152⟩
def rM:aab:=⟨[.agg [.i .i64 (some 0), .i .i64 (some 0), .s [.f] (some 0)],.i .i64 (some 0),.i .i64 (some 0),.fn 176 [] []],fp 5 (fun r c m i k=>VA r c m (bZ i c (0<=k/\k<c))),[fa (.aF []) 5 (fun r c m i k=>True)],false,153⟩
def kT:aab:=⟨[.pb [.s [.f] (some 0), .s [.f] (some 0), .i .i64 (some 0), .i .i64 (some 0), .s [.f] (some 0), .i .i64 (some 0), .i .i64 (some 0), .s [.f] (some 0), .f],.f],fp 8 (fun n e ur uc um vr vc vm=>True),[fa (.b none) 8 (fun n e ur uc um vr vc vm=>True)],false,154⟩
def nM:aab:=⟨[.pb [.s [.f] (some 0), .s [.f] (some 0), .i .i64 (some 0), .i .i64 (some 0), .s [.f] (some 0), .i .i64 (some 0), .i .i64 (some 0), .s [.f] (some 0), .f],.i .i64 (some 0)],fp 9 (fun n e ur uc um vr vc vm k=>bZ k n (n<=e/\n<=512)),[fa (.aF [.i .i64 (some 0), .b (some true)]) 10 (fun n e ur uc um vr vc vm k l=>1<=l/\l<=k),fa (.aF [.i .i64 (some 0), .b (some false)]) 10 (fun n e ur uc um vr vc vm k l=>0<=l/\l<=k)],false,155⟩
def nN:aab:=⟨[.pb [.s [.f] (some 0), .s [.f] (some 0), .i .i64 (some 0), .i .i64 (some 0), .s [.f] (some 0), .i .i64 (some 0), .i .i64 (some 0), .s [.f] (some 0), .f],.i .i64 (some 0),.i .i64 (some 0)],fp 10 (fun n e ur uc um vr vc vm l k=>n<=e/\n<=512/\VA ur uc um (VA vr vc vm (uc=n/\vc=n/\1<=l/\l<=k/\k<n))),[fa (.aF []) 10 (fun n e ur uc um vr vc vm l k=>True)],false,156⟩
def nO:aab:=⟨[.pb [.s [.f] (some 0), .s [.f] (some 0), .i .i64 (some 0), .i .i64 (some 0), .s [.f] (some 0), .i .i64 (some 0), .i .i64 (some 0), .s [.f] (some 0), .f],.i .i64 (some 0),.i .i64 (some 0)],fp 10 (fun n e ur uc um vr vc vm l k=>n<=e/\n<=512/\VA ur uc um (VA vr vc vm (uc=n/\vc=n/\bZ l k (k<n)))),[fa (.aF []) 10 (fun n e ur uc um vr vc vm l k=>True)],false,157⟩
def AA:aab:=⟨[.s [.f] (some 0),.agg [.i .i64 (some 0), .i .i64 (some 0), .s [.f] (some 0)],.agg [.i .i64 (some 0), .i .i64 (some 0), .s [.f] (some 0)]],fp 7 (fun n ur uc um vr vc vm=>VA ur uc um (VA vr vc vm (0<=n/\n<=1000000000))),[fa (.aF [.s [.f] (some 0), .agg [.i .i64 (some 0), .i .i64 (some 0), .s [.f] (some 0)], .agg [.i .i64 (some 0), .i .i64 (some 0), .s [.f] (some 0)], .i .i64 (some 0)]) 15 (fun n ur uc um vr vc vm k xr xc xn yr yc yn e=>K3 xn xr xc (K3 yn yr yc (0<=k/\k<=1000000000)))],false,158⟩
def D7:aab:=⟨[.agg [.s [.f] (some 0), .s [.f] (some 0)],.agg [.i .i64 (some 0), .i .i64 (some 0), .s [.f] (some 0)],.agg [.i .i64 (some 0), .i .i64 (some 0), .s [.f] (some 0)]],fp 8 (fun d e ur uc um vr vc vm=>K5 um vm d (iD d e (e<=1000000000))),[fa (.aF [.s [.f] (some 0), .agg [.i .i64 (some 0), .i .i64 (some 0), .s [.f] (some 0)], .agg [.i .i64 (some 0), .i .i64 (some 0), .s [.f] (some 0)], .i .i64 (some 0), .i .i64 none]) 16 (fun d e ur uc um vr vc vm k xr xc xn yr yc yn s=>K3 xn xr xc (K3 yn yr yc (0<=k/\iD k s (s<=30*d))))],false,159⟩
def kU:aab:=⟨[.i .i64 (some 0),.p [.s [.f] (some 0), .f],.p [.i .i64 (some 0)]],fp 3 (fun j v k=>0<=j-k-1/\j-k-1<v/\Fv k (j<=512)),[fa .f 3 (fun j v k=>True)],false,160⟩
def kV:aab:=⟨[.i .i64 (some 0),.p [.s [.f] (some 0)],.p [.i .i64 (some 0)],.p [.i .i64 (some 0)],.p [.fn 138 [] [.p [.s [.f] (some 0), .f], .p [.i .i64 (some 0)]]]],fp 6 (fun j am i n v k=>am=n*n/\n<=512/\bZ i n (0<=k/\v=n-k-1/\k+1<=j/\j<n)),[fa .f 6 (fun j am i n v k=>True)],false,161⟩
def kW:aab:=⟨[.i .i64 (some 0),.p [.s [.f] (some 0)],.p [.fn 138 [] [.p [.s [.f] (some 0), .f], .p [.i .i64 (some 0)]]]],fp 4 (fun j p v k=>Fv k (p<=512/\v=p-k-1/\k+1<=j/\j<p)),[fa .f 4 (fun j p v k=>True)],false,162⟩
def uD:aab:=⟨[.i .i64 (some 0),.i .i64 (some 0),.fn 140 [] [.p [.s [.f] (some 0)], .p [.i .i64 (some 0)], .p [.i .i64 (some 0)], .p [.fn 138 [] [.p [.s [.f] (some 0), .f], .p [.i .i64 (some 0)]]]]],fp 7 (fun a b am i n v k=>am=n*n/\n<=512/\bZ i n (0<=k/\v=n-k-1/\k+1<=a/\a<=n/\b=n)),[fa .f 7 (fun a b am i n v k=>True)],false,163⟩
def rO:aab:=⟨[.i .i64 (some 0),.i .i64 (some 0),.fn 141 [] [.p [.s [.f] (some 0)], .p [.fn 138 [] [.p [.s [.f] (some 0), .f], .p [.i .i64 (some 0)]]]]],fp 5 (fun a b p v k=>Fv k (p<=512/\v=p-k-1/\k+1<=a/\a<=p/\b=p)),[fa .f 5 (fun a b p v k=>True)],false,164⟩
def nP:aab:=⟨[.agg [.i .i64 (some 0), .i .i64 (some 0), .s [.f] (some 0)]],fp 3 (fun r c m=>0<=m/\m<=1000000000),[fa (.aF [.agg [.s [.f] (some 0), .s [.f] (some 0)], .s [.s [.f] none, .f] (some 0), .i .i64 none]) 6 (fun r c m d e l=>iw d e (e<=512/\Fv l (d=0\/d<=r)))],false,165⟩
def AB:aab:=⟨[.i .i64 (some 0),.s [.s [.f] none, .f] (some 0)],fp 2 (fun n l=>0<=l/\l<=1000000000),[fa (.aF [.agg [.i .i64 (some 0), .i .i64 (some 0), .s [.f] (some 0)], .i .i64 none]) 5 (fun n l yr yc yn=>yn=yr*yc/\iw yr yc (yc<=512/\0<=yn/\yn<=262144))],false,166⟩
def mI:aab:=⟨[.agg [.i .i64 (some 0), .i .i64 (some 0), .s [.f] (some 0)]],fp 3 (fun r c n=>V r c n),[fa (.aF [.agg [.s [.f] (some 0), .s [.f] (some 0)], .agg [.i .i64 (some 0), .i .i64 (some 0), .s [.f] (some 0)], .i .i64 (some 0)]) 9 (fun r c n d e yr yc yn p=>K3 yn yr yc (iw d e (e<=512/\-10000<=p/\p<=10000/\d<=r)))],false,167⟩
def mJ:aab:=⟨[.s [.f] (some 0),.i .i64 (some 0)],fp 2 (fun n p=>0<=n/\n<=1000000000),[fa (.s [.f] (some 0)) 3 (fun n p m=>m=n)],false,168⟩
def pR:aab:=⟨[.agg [.s [.f] (some 0), .s [.f] (some 0)],.agg [.i .i64 (some 0), .i .i64 (some 0), .s [.f] (some 0)]],fp 5 (fun d e r c m=>K5 m d e (e<=1000000000)),[fa (.aF [.s [.f] (some 0), .agg [.i .i64 (some 0), .i .i64 (some 0), .s [.f] (some 0)], .i .i64 (some 0), .i .i64 none]) 10 (fun d e r c m k yr yc yn s=>K3 yn yr yc (0<=k/\iD k s (s<=30*d)))],false,169⟩
def kX:aab:=⟨[.agg [.np 0 [.s [.f] (some 0)], .i .i64 (some 0), .i .i64 (some 0), .i .i64 (some 0), .i .i64 (some 0), .i .i64 (some 0)],.i .i64 (some 0),.i .i64 (some 0)],fp 9 (fun vz vn vr vc va vd vo i j=>True),[fa (.b (some true)) 9 (fun vz vn vr vc va vd vo i j=>bZ i vr (0<=j/\j<vc)),fa (.b (some false)) 9 (fun vz vn vr vc va vd vo i j=>¬bZ i vr (0<=j/\j<vc))],true,170⟩
def mK:aab:=⟨[.agg [.np 0 [.s [.f] (some 0)], .i .i64 (some 0), .i .i64 (some 0), .i .i64 (some 0), .i .i64 (some 0), .i .i64 (some 0)],.i .i64 (some 0),.i .i64 (some 0)],fp 9 (fun vz vn vr vc va vd vo i j=>0<=va/\va<=1000000000000/\R4 vd vo (iw i j (j<=512))),[fa (.i .i64 (some 0)) 10 (fun vz vn vr vc va vd vo i j q=>q=va+i*vd+j*vo)],false,171⟩
def rP:aab:=⟨[.agg [.np 0 [.s [.f] (some 0)], .i .i64 (some 0), .i .i64 (some 0), .i .i64 (some 0), .i .i64 (some 0), .i .i64 (some 0)],.i .i64 (some 0),.i .i64 (some 0)],fp 9 (fun vz vn vr vc va vd vo i j=>K0 vz vr vc va vd vo vn (1<=vr->1<=vc->vz=1/\va+(vr-1)*vd+(vc-1)*vo<vn)),[fa .f 9 (fun vz vn vr vc va vd vo i j=>True)],false,172⟩
def pU:aab:=⟨[.agg [.np 0 [.s [.f] (some 0)], .i .i64 (some 0), .i .i64 (some 0), .i .i64 (some 0), .i .i64 (some 0), .i .i64 (some 0)],.i .i64 (some 0),.i .i64 (some 0),.f],fp 9 (fun vz vn vr vc va vd vo i j=>K0 vz vr vc va vd vo vn (1<=vr->1<=vc->vz=1/\va+(vr-1)*vd+(vc-1)*vo<vn)),[fa (.i .i64 none) 9 (fun vz vn vr vc va vd vo i j=>True)],false,173⟩
def pV:aab:=⟨[.agg [.np 0 [.s [.f] (some 0)], .i .i64 (some 0), .i .i64 (some 0), .i .i64 (some 0), .i .i64 (some 0), .i .i64 (some 0)]],fp 7 (fun vz vn vr vc va vd vo=>K0 vz vr vc va vd vo vn (1<=vr->1<=vc->vz=1/\va+(vr-1)*vd+(vc-1)*vo<vn)),[fa (.fn 303 [] [.p [.np 0 [.s [.f] (some 0)], .i .i64 (some 0), .i .i64 (some 0), .i .i64 (some 0), .i .i64 (some 0), .i .i64 (some 0)]]) 14 (fun vz vn vr vc va vd vo wz wn wr wc wa wd wo=>wz=vz/\wn=vn/\wr=vr/\wc=vc/\wa=va/\wd=vd/\wo=vo)],false,174⟩
def nQ:aab:=⟨[.agg [.np 0 [.s [.f] (some 0)], .i .i64 (some 0), .i .i64 (some 0), .i .i64 (some 0), .i .i64 (some 0), .i .i64 (some 0)],.f],fp 7 (fun vz vn vr vc va vd vo=>K0 vz vr vc va vd vo vn (1<=vr->1<=vc->vz=1/\va+(vr-1)*vd+(vc-1)*vo<vn)),[fa (.i .i64 none) 7 (fun vz vn vr vc va vd vo=>True)],false,175⟩
def nR:aab:=⟨[.agg [.np 0 [.s [.f] (some 0)], .i .i64 (some 0), .i .i64 (some 0), .i .i64 (some 0), .i .i64 (some 0), .i .i64 (some 0)]],fp 7 (fun vz vn vr vc va vd vo=>True),[fa (.i .i64 (some 0)) 8 (fun vz vn vr vc va vd vo k=>k=vr)],false,176⟩
def nS:aab:=⟨[.agg [.np 0 [.s [.f] (some 0)], .i .i64 (some 0), .i .i64 (some 0), .i .i64 (some 0), .i .i64 (some 0), .i .i64 (some 0)]],fp 7 (fun vz vn vr vc va vd vo=>True),[fa (.i .i64 (some 0)) 8 (fun vz vn vr vc va vd vo k=>k=vc)],false,177⟩
def kY:aab:=⟨[.agg [.np 0 [.s [.f] (some 0)], .i .i64 (some 0), .i .i64 (some 0), .i .i64 (some 0), .i .i64 (some 0), .i .i64 (some 0)]],fp 7 (fun vz vn vr vc va vd vo=>True),[fa (.b (some true)) 7 (fun vz vn vr vc va vd vo=>¬vz=0/\(vr=1\/vc=1\/vr=0/\vc=0)),fa (.b (some false)) 7 (fun vz vn vr vc va vd vo=>¬(¬vz=0/\(vr=1\/vc=1\/vr=0/\vc=0)))],true,178⟩
def pW:aab:=⟨[.agg [.np 0 [.s [.f] (some 0)], .i .i64 (some 0), .i .i64 (some 0), .i .i64 (some 0), .i .i64 (some 0), .i .i64 (some 0)]],fp 7 (fun vz vn vr vc va vd vo=>K0 vz vr vc va vd vo vn (1<=vr->1<=vc->vz=1/\va+(vr-1)*vd+(vc-1)*vo<vn)),[fa (.i .i64 (some 0)) 8 (fun vz vn vr vc va vd vo k=>zh k ((¬vz=0->vr=1->k=vc)/\(¬vz=0->vc=1->k=vr)))],false,179⟩
def mM:aab:=⟨[.agg [.np 0 [.s [.f] (some 0)], .i .i64 (some 0), .i .i64 (some 0), .i .i64 (some 0), .i .i64 (some 0), .i .i64 (some 0)],.i .i64 (some 0)],fp 8 (fun vz vn vr vc va vd vo i=>True),[fa (.aF [.i .i64 (some 0), .i .i64 (some 0)]) 10 (fun vz vn vr vc va vd vo i p q=>vr=1/\p=0/\q=i\/¬vr=1/\p=i/\q=0)],false,180⟩
def pX:aab:=⟨[.agg [.np 0 [.s [.f] (some 0)], .i .i64 (some 0), .i .i64 (some 0), .i .i64 (some 0), .i .i64 (some 0), .i .i64 (some 0)],.i .i64 (some 0)],fp 8 (fun vz vn vr vc va vd vo i=>K0 vz vr vc va vd vo vn (1<=vr->1<=vc->vz=1/\va+(vr-1)*vd+(vc-1)*vo<vn)),[fa .f 8 (fun vz vn vr vc va vd vo i=>True)],false,181⟩
def pY:aab:=⟨[.agg [.np 0 [.s [.f] (some 0)], .i .i64 (some 0), .i .i64 (some 0), .i .i64 (some 0), .i .i64 (some 0), .i .i64 (some 0)],.i .i64 (some 0),.f],fp 8 (fun vz vn vr vc va vd vo i=>K0 vz vr vc va vd vo vn (1<=vr->1<=vc->vz=1/\va+(vr-1)*vd+(vc-1)*vo<vn)),[fa (.i .i64 none) 8 (fun vz vn vr vc va vd vo i=>True)],false,182⟩
def AJ:aab:=⟨[.oC [.i .i64 (some 0), .i .i64 (some 0)] 2],fp 2 (fun r c=>True),[fa (.b (some true)) 2 (fun r c=>iw r c (c<=512)),fa (.b (some false)) 2 (fun r c=>¬iw r c (c<=512))],true,183⟩
def kZ:aab:=⟨[.agg [.np 0 [.s [.f] (some 0)], .i .i64 (some 0), .i .i64 (some 0), .i .i64 (some 0), .i .i64 (some 0), .i .i64 (some 0)]],fp 7 (fun vz vn vr vc va vd vo=>K0 vz vr vc va vd vo vn (1<=vr->1<=vc->vz=1/\va+(vr-1)*vd+(vc-1)*vo<vn)),[fa (.agg [.i .i64 (some 0), .i .i64 (some 0), .s [.f] (some 0)]) 10 (fun vz vn vr vc va vd vo r c n=>zh n (r=vr/\c=vc/\n=vr*vc))],false,184⟩
def nT:aab:=⟨[.agg [.np 0 [.s [.f] (some 0)], .i .i64 (some 0), .i .i64 (some 0), .i .i64 (some 0), .i .i64 (some 0), .i .i64 (some 0)]],fp 7 (fun vz vn vr vc va vd vo=>K0 vz vr vc va vd vo vn ((1<=vr->1<=vc->vz=1/\va+(vr-1)*vd+(vc-1)*vo<vn)/\vd+vo<=1000000)),[fa (.agg [.np 0 [.s [.f] (some 0)], .i .i64 (some 0), .i .i64 (some 0), .i .i64 (some 0), .i .i64 (some 0), .i .i64 (some 0)]) 14 (fun vz vn vr vc va vd vo wz wn wr wc wa wd wo=>K0 wz wr wc wa wd wo wn (1<=wr->1<=wc->wz=1/\wa+(wr-1)*wd+(wc-1)*wo<wn)/\(wr=vr\/wr=vc\/wr=0)/\wr<=vr/\wr<=vc/\(vz=0->wr=0/\wz=0)/\wd<=vd+vo/\wo<=vo/\(vz=1->wz=1/\wc=1))],false,185⟩
def D8:aab:=⟨[.i .i64 (some 0),.i .i64 (some 0)],fp 2 (fun r c=>True),[fa (.aF [.agg [.np 0 [.s [.f] (some 0)], .i .i64 (some 0), .i .i64 (some 0), .i .i64 (some 0), .i .i64 (some 0), .i .i64 (some 0)], .i .i64 (some 0)]) 10 (fun r c wz wn wr wc wa wd wo e=>K0 wz wr wc wa wd wo wn (1<=wr->1<=wc->wz=1/\wa+(wr-1)*wd+(wc-1)*wo<wn)/\(wz=1/\e=0/\wr=r/\wc=c\/wz=0/\e=2/\wr=0/\wc=0)/\QA wa wd wc wo wn wr (iw r c (c<=512)->wz=1))],false,186⟩
def xQ:aab:=⟨[.i .i64 (some 0),.i .i64 (some 0)],fp 2 (fun n k=>True),[fa (.agg [.i .i64 (some 0), .i .i64 (some 0), .s [.f] (some 0)]) 5 (fun n k r c m=>VA r c m (m<=262144))],false,187⟩
def Hu:aab:=⟨[.agg [.i .i64 (some 0), .i .i64 (some 0), .s [.f] (some 0)]],fp 3 (fun r c n=>0<=n/\n<=1000000000),[fa (.aF [.agg [.np 0 [.s [.f] (some 0)], .i .i64 (some 0), .i .i64 (some 0), .i .i64 (some 0), .i .i64 (some 0), .i .i64 (some 0)], .i .i64 (some 0)]) 11 (fun r c n wz wn wr wc wa wd wo e=>K0 wz wr wc wa wd wo wn (1<=wr->1<=wc->wz=1/\wa+(wr-1)*wd+(wc-1)*wo<wn)/\(wz=1/\e=0/\wr=r/\wc=c/\n=r*c\/wz=0/\e=2/\wr=0/\wc=0)/\QA wa wd wc wo wn wr (iw r c (c<=512)->n=r*c->wz=1))],false,188⟩
def D9:aab:=⟨[.i .i64 (some 0)],fp 1 (fun n=>True),[fa (.aF [.agg [.np 0 [.s [.f] (some 0)], .i .i64 (some 0), .i .i64 (some 0), .i .i64 (some 0), .i .i64 (some 0), .i .i64 (some 0)], .i .i64 (some 0)]) 9 (fun n wz wn wr wc wa wd wo e=>K0 wz wr wc wa wd wo wn (1<=wr->1<=wc->wz=1/\wa+(wr-1)*wd+(wc-1)*wo<wn)/\(wz=1/\e=0/\wr=n/\wc=n\/wz=0/\e=2/\wr=0/\wc=0)/\QA wa wd wc wo wn wr (0<=n->n<=512->wz=1))],false,189⟩
def lg:aab:=⟨[.i .i64 (some 0),.i .i64 (some 0),.i .i64 (some 0)],fp 3 (fun i k m=>0<=m/\m<=512),[fa (.b (some true)) 3 (fun i k m=>nI i k (i<=m/\k<=m-i)),fa (.b (some false)) 3 (fun i k m=>¬nI i k (i<=m/\k<=m-i))],true,190⟩
def nU:aab:=⟨[.agg [.np 0 [.s [.f] (some 0)], .i .i64 (some 0), .i .i64 (some 0), .i .i64 (some 0), .i .i64 (some 0), .i .i64 (some 0)],.i .i64 (some 0),.i .i64 (some 0),.i .i64 (some 0),.i .i64 (some 0)],fp 11 (fun vz vn vr vc va vd vo i j p q=>K0 vz vr vc va vd vo vn ((1<=vr->1<=vc->vz=1/\va+(vr-1)*vd+(vc-1)*vo<vn)/\va<=900000000000)),[fa (.agg [.np 0 [.s [.f] (some 0)], .i .i64 (some 0), .i .i64 (some 0), .i .i64 (some 0), .i .i64 (some 0), .i .i64 (some 0)]) 18 (fun vz vn vr vc va vd vo i j p q wz wn wr wc wa wd wo=>K0 wz wr wc wa wd wo wn (1<=wr->1<=wc->wz=1/\wa+(wr-1)*wd+(wc-1)*wo<wn)/\(iG wz wr (wc=0)\/wz=1/\wr=p/\wc=q)/\wd<=vd/\wo<=vo/\wa<=va+1024000000/\(vz=1/\nI i j (nI p q (i+p<=vr/\j+q<=vc))->wz=1))],false,191⟩
def p8:aab:=⟨[.agg [.np 0 [.s [.f] (some 0)], .i .i64 (some 0), .i .i64 (some 0), .i .i64 (some 0), .i .i64 (some 0), .i .i64 (some 0)],.i .i64 (some 0)],fp 8 (fun vz vn vr vc va vd vo j=>K0 vz vr vc va vd vo vn ((1<=vr->1<=vc->vz=1/\va+(vr-1)*vd+(vc-1)*vo<vn)/\va<=900000000000)),[fa (.agg [.np 0 [.s [.f] (some 0)], .i .i64 (some 0), .i .i64 (some 0), .i .i64 (some 0), .i .i64 (some 0), .i .i64 (some 0)]) 15 (fun vz vn vr vc va vd vo j wz wn wr wc wa wd wo=>K0 wz wr wc wa wd wo wn (1<=wr->1<=wc->wz=1/\wa+(wr-1)*wd+(wc-1)*wo<wn)/\(iG wz wr (wc=0)\/wz=1/\wr=vr/\wc=1)/\wa<=va+1024000000/\(vz=1/\0<=j/\j<vc->wz=1))],false,192⟩
def nV:aab:=⟨[.agg [.np 0 [.s [.f] (some 0)], .i .i64 (some 0), .i .i64 (some 0), .i .i64 (some 0), .i .i64 (some 0), .i .i64 (some 0)]],fp 7 (fun vz vn vr vc va vd vo=>K0 vz vr vc va vd vo vn (1<=vr->1<=vc->vz=1/\va+(vr-1)*vd+(vc-1)*vo<vn)),[fa (.agg [.np 0 [.s [.f] (some 0)], .i .i64 (some 0), .i .i64 (some 0), .i .i64 (some 0), .i .i64 (some 0), .i .i64 (some 0)]) 14 (fun vz vn vr vc va vd vo wz wn wr wc wa wd wo=>K0 wz wr wc wa wd wo wn (1<=wr->1<=wc->wz=1/\wa+(wr-1)*wd+(wc-1)*wo<wn)/\(wz=1/\wr=vr/\wc=vc\/iG wz wr (wc=0))/\wa=0/\wd=wc/\0<=wo/\wo<=1)],false,193⟩
def nW:aab:=⟨[.agg [.np 0 [.s [.f] (some 0)], .i .i64 (some 0), .i .i64 (some 0), .i .i64 (some 0), .i .i64 (some 0), .i .i64 (some 0)],.agg [.np 0 [.s [.f] (some 0)], .i .i64 (some 0), .i .i64 (some 0), .i .i64 (some 0), .i .i64 (some 0), .i .i64 (some 0)]],fp 14 (fun vz vn vr vc va vd vo wz wn wr wc wa wd wo=>K0 vz vr vc va vd vo vn (1<=vr->1<=vc->vz=1/\va+(vr-1)*vd+(vc-1)*vo<vn)/\K0 wz wr wc wa wd wo wn (1<=wr->1<=wc->wz=1/\wa+(wr-1)*wd+(wc-1)*wo<wn)),[fa (.i .i64 none) 14 (fun vz vn vr vc va vd vo wz wn wr wc wa wd wo=>True)],false,194⟩
def AO:aab:=⟨[.f,.f],fp 0 (True),[fa (.b none) 0 (True)],false,195⟩
def AP:aab:=⟨[.agg [.np 0 [.s [.f] (some 0)], .i .i64 (some 0), .i .i64 (some 0), .i .i64 (some 0), .i .i64 (some 0), .i .i64 (some 0)],.agg [.np 0 [.s [.f] (some 0)], .i .i64 (some 0), .i .i64 (some 0), .i .i64 (some 0), .i .i64 (some 0), .i .i64 (some 0)]],fp 14 (fun vz vn vr vc va vd vo wz wn wr wc wa wd wo=>K0 vz vr vc va vd vo vn (1<=vr->1<=vc->vz=1/\va+(vr-1)*vd+(vc-1)*vo<vn)/\K0 wz wr wc wa wd wo wn (1<=wr->1<=wc->wz=1/\wa+(wr-1)*wd+(wc-1)*wo<wn)),[fa (.b none) 14 (fun vz vn vr vc va vd vo wz wn wr wc wa wd wo=>True)],false,196⟩
def xR:aab:=⟨[.agg [.np 0 [.s [.f] (some 0)], .i .i64 (some 0), .i .i64 (some 0), .i .i64 (some 0), .i .i64 (some 0), .i .i64 (some 0)],.agg [.pn, .i .i64 (some 0), .i .i64 (some 0), .i .i64 (some 0), .i .i64 (some 0), .i .i64 (some 0)]],fp 12 (fun vz vn vr vc va vd vo wr wc wa wd wo=>K0 vz vr vc va vd vo vn (1<=vr->1<=vc->vz=1/\va+(vr-1)*vd+(vc-1)*vo<vn)/\wr=0/\wc=0),[fa (.b none) 12 (fun vz vn vr vc va vd vo wr wc wa wd wo=>True)],false,197⟩
def p9:aab:=⟨[.oC [.np 0 [.s [.f] (some 0)], .i .i64 (some 0), .i .i64 (some 0), .i .i64 (some 0), .i .i64 (some 0), .i .i64 (some 0), .np 0 [.s [.f] (some 0)], .i .i64 (some 0), .i .i64 (some 0), .i .i64 (some 0), .i .i64 (some 0), .i .i64 (some 0)] 2],fp 14 (fun vz vn vr vc va vd vo wz wn wr wc wa wd wo=>K0 vz vr vc va vd vo vn (1<=vr->1<=vc->vz=1/\va+(vr-1)*vd+(vc-1)*vo<vn)/\K0 wz wr wc wa wd wo wn (1<=wr->1<=wc->wz=1/\wa+(wr-1)*wd+(wc-1)*wo<wn)),[fa (.b none) 14 (fun vz vn vr vc va vd vo wz wn wr wc wa wd wo=>True)],false,198⟩
def mO:aab:=⟨[.i .i64 (some 0),.oC [.np 0 [.s [.f] (some 0)], .i .i64 (some 0), .i .i64 (some 0), .i .i64 (some 0), .i .i64 (some 0), .i .i64 (some 0)] 1],fp 8 (fun n vz vn vr vc va vd vo=>K0 vz vr vc va vd vo vn (1<=vr->1<=vc->vz=1/\va+(vr-1)*vd+(vc-1)*vo<vn)),[fa (.b none) 8 (fun n vz vn vr vc va vd vo=>True)],false,199⟩
def lh:aab:=⟨[.agg [.np 0 [.s [.f] (some 0)], .i .i64 (some 0), .i .i64 (some 0), .i .i64 (some 0), .i .i64 (some 0), .i .i64 (some 0)],.agg [.np 0 [.s [.f] (some 0)], .i .i64 (some 0), .i .i64 (some 0), .i .i64 (some 0), .i .i64 (some 0), .i .i64 (some 0)]],fp 14 (fun vz vn vr vc va vd vo wz wn wr wc wa wd wo=>K0 vz vr vc va vd vo vn (1<=vr->1<=vc->vz=1/\va+(vr-1)*vd+(vc-1)*vo<vn)/\K0 wz wr wc wa wd wo wn (1<=wr->1<=wc->wz=1/\wa+(wr-1)*wd+(wc-1)*wo<wn)),[fa (.b none) 14 (fun vz vn vr vc va vd vo wz wn wr wc wa wd wo=>True)],false,200⟩
def qf:aab:=⟨[.p [.np 0 [.s [.f] (some 0)], .i .i64 (some 0), .i .i64 (some 0), .i .i64 (some 0), .i .i64 (some 0), .i .i64 (some 0)],.p [.np 0 [.s [.f] (some 0)], .i .i64 (some 0), .i .i64 (some 0), .i .i64 (some 0), .i .i64 (some 0), .i .i64 (some 0)]],fp 14 (fun vz vn vr vc va vd vo wz wn wr wc wa wd wo=>K0 vz vr vc va vd vo vn (1<=vr->1<=vc->vz=1/\va+(vr-1)*vd+(vc-1)*vo<vn)/\K0 wz wr wc wa wd wo wn (1<=wr->1<=wc->wz=1/\wa+(wr-1)*wd+(wc-1)*wo<wn)),[fa (.b none) 14 (fun vz vn vr vc va vd vo wz wn wr wc wa wd wo=>True)],false,201⟩
def nX:aab:=⟨[.p [.np 0 [.s [.f] (some 0)], .i .i64 (some 0), .i .i64 (some 0), .i .i64 (some 0), .i .i64 (some 0), .i .i64 (some 0)],.p [.np 0 [.s [.f] (some 0)], .i .i64 (some 0), .i .i64 (some 0), .i .i64 (some 0), .i .i64 (some 0), .i .i64 (some 0)]],fp 14 (fun vz vn vr vc va vd vo wz wn wr wc wa wd wo=>K0 vz vr vc va vd vo vn (1<=vr->1<=vc->vz=1/\va+(vr-1)*vd+(vc-1)*vo<vn)/\K0 wz wr wc wa wd wo wn (1<=wr->1<=wc->wz=1/\wa+(wr-1)*wd+(wc-1)*wo<wn)),[fa (.b none) 14 (fun vz vn vr vc va vd vo wz wn wr wc wa wd wo=>True)],false,202⟩
def nY:aab:=⟨[.p [.np 0 [.s [.f] (some 0)], .i .i64 (some 0), .i .i64 (some 0), .i .i64 (some 0), .i .i64 (some 0), .i .i64 (some 0)],.p [.np 0 [.s [.f] (some 0)], .i .i64 (some 0), .i .i64 (some 0), .i .i64 (some 0), .i .i64 (some 0), .i .i64 (some 0)]],fp 14 (fun vz vn vr vc va vd vo wz wn wr wc wa wd wo=>K0 vz vr vc va vd vo vn (1<=vr->1<=vc->vz=1/\va+(vr-1)*vd+(vc-1)*vo<vn)/\K0 wz wr wc wa wd wo wn (1<=wr->1<=wc->wz=1/\wa+(wr-1)*wd+(wc-1)*wo<wn)),[fa (.b none) 14 (fun vz vn vr vc va vd vo wz wn wr wc wa wd wo=>True)],false,203⟩
def rQ:aab:=⟨[.fn 340 [] [.p [.np 0 [.s [.f] (some 0)], .i .i64 (some 0), .i .i64 (some 0), .i .i64 (some 0), .i .i64 (some 0), .i .i64 (some 0)], .p [.np 0 [.s [.f] (some 0)], .i .i64 (some 0), .i .i64 (some 0), .i .i64 (some 0), .i .i64 (some 0), .i .i64 (some 0)]],.oC [.np 0 [.s [.f] (some 0)], .i .i64 (some 0), .i .i64 (some 0), .i .i64 (some 0), .i .i64 (some 0), .i .i64 (some 0), .np 0 [.s [.f] (some 0)], .i .i64 (some 0), .i .i64 (some 0), .i .i64 (some 0), .i .i64 (some 0), .i .i64 (some 0)] 2],fp 28 (fun vz vn vr vc va vd vo wz wn wr wc wa wd wo xz xn xr xc xa xd xo yz yn yr yc ya yd yo=>K0 vz vr vc va vd vo vn (1<=vr->1<=vc->vz=1/\va+(vr-1)*vd+(vc-1)*vo<vn)/\K0 wz wr wc wa wd wo wn ((1<=wr->1<=wc->wz=1/\wa+(wr-1)*wd+(wc-1)*wo<wn)/\K0 xz xr xc xa xd xo xn (1<=xr->1<=xc->xz=1/\xa+(xr-1)*xd+(xc-1)*xo<xn)/\K0 yz yr yc ya yd yo yn (1<=yr->1<=yc->yz=1/\ya+(yr-1)*yd+(yc-1)*yo<yn))),[fa (.i .i64 none) 28 (fun vz vn vr vc va vd vo wz wn wr wc wa wd wo xz xn xr xc xa xd xo yz yn yr yc ya yd yo=>True)],false,204⟩
def qg:aab:=⟨[.fn 311 [] [.p [.np 0 [.s [.f] (some 0)], .i .i64 (some 0), .i .i64 (some 0), .i .i64 (some 0), .i .i64 (some 0), .i .i64 (some 0)], .p [.np 0 [.s [.f] (some 0)], .i .i64 (some 0), .i .i64 (some 0), .i .i64 (some 0), .i .i64 (some 0), .i .i64 (some 0)]],.oC [.np 0 [.s [.f] (some 0)], .i .i64 (some 0), .i .i64 (some 0), .i .i64 (some 0), .i .i64 (some 0), .i .i64 (some 0), .np 0 [.s [.f] (some 0)], .i .i64 (some 0), .i .i64 (some 0), .i .i64 (some 0), .i .i64 (some 0), .i .i64 (some 0)] 2],fp 28 (fun vz vn vr vc va vd vo wz wn wr wc wa wd wo xz xn xr xc xa xd xo yz yn yr yc ya yd yo=>K0 vz vr vc va vd vo vn (1<=vr->1<=vc->vz=1/\va+(vr-1)*vd+(vc-1)*vo<vn)/\K0 wz wr wc wa wd wo wn ((1<=wr->1<=wc->wz=1/\wa+(wr-1)*wd+(wc-1)*wo<wn)/\K0 xz xr xc xa xd xo xn (1<=xr->1<=xc->xz=1/\xa+(xr-1)*xd+(xc-1)*xo<xn)/\K0 yz yr yc ya yd yo yn (1<=yr->1<=yc->yz=1/\ya+(yr-1)*yd+(yc-1)*yo<yn))),[fa (.i .i64 none) 28 (fun vz vn vr vc va vd vo wz wn wr wc wa wd wo xz xn xr xc xa xd xo yz yn yr yc ya yd yo=>True)],false,205⟩
def nZ:aab:=⟨[.fn 308 [] [.p [.np 0 [.s [.f] (some 0)], .i .i64 (some 0), .i .i64 (some 0), .i .i64 (some 0), .i .i64 (some 0), .i .i64 (some 0)], .p [.np 0 [.s [.f] (some 0)], .i .i64 (some 0), .i .i64 (some 0), .i .i64 (some 0), .i .i64 (some 0), .i .i64 (some 0)]],.oC [.np 0 [.s [.f] (some 0)], .i .i64 (some 0), .i .i64 (some 0), .i .i64 (some 0), .i .i64 (some 0), .i .i64 (some 0), .np 0 [.s [.f] (some 0)], .i .i64 (some 0), .i .i64 (some 0), .i .i64 (some 0), .i .i64 (some 0), .i .i64 (some 0)] 2],fp 28 (fun vz vn vr vc va vd vo wz wn wr wc wa wd wo xz xn xr xc xa xd xo yz yn yr yc ya yd yo=>K0 vz vr vc va vd vo vn (1<=vr->1<=vc->vz=1/\va+(vr-1)*vd+(vc-1)*vo<vn)/\K0 wz wr wc wa wd wo wn ((1<=wr->1<=wc->wz=1/\wa+(wr-1)*wd+(wc-1)*wo<wn)/\K0 xz xr xc xa xd xo xn (1<=xr->1<=xc->xz=1/\xa+(xr-1)*xd+(xc-1)*xo<xn)/\K0 yz yr yc ya yd yo yn (1<=yr->1<=yc->yz=1/\ya+(yr-1)*yd+(yc-1)*yo<yn))),[fa (.i .i64 none) 28 (fun vz vn vr vc va vd vo wz wn wr wc wa wd wo xz xn xr xc xa xd xo yz yn yr yc ya yd yo=>True)],false,206⟩
def uE:aab:=⟨[.i .i64 (some 0),.i .i64 (some 0),.fn 252 [.agg [.np 0 [.s [.f] (some 0)], .i .i64 (some 0), .i .i64 (some 0), .i .i64 (some 0), .i .i64 (some 0), .i .i64 (some 0)]] [],.fn 252 [.agg [.np 0 [.s [.f] (some 0)], .i .i64 (some 0), .i .i64 (some 0), .i .i64 (some 0), .i .i64 (some 0), .i .i64 (some 0)]] []],fp 16 (fun a b vz vn vr vc va vd vo wz wn wr wc wa wd wo=>K0 vz vr vc va vd vo vn (1<=vr->1<=vc->vz=1/\va+(vr-1)*vd+(vc-1)*vo<vn)/\K0 wz wr wc wa wd wo wn ((1<=wr->1<=wc->wz=1/\wa+(wr-1)*wd+(wc-1)*wo<wn)/\zh b (a=0))),[fa .f 16 (fun a b vz vn vr vc va vd vo wz wn wr wc wa wd wo=>True)],false,207⟩
def uF:aab:=⟨[.agg [.np 0 [.s [.f] (some 0)], .i .i64 (some 0), .i .i64 (some 0), .i .i64 (some 0), .i .i64 (some 0), .i .i64 (some 0)],.agg [.np 0 [.s [.f] (some 0)], .i .i64 (some 0), .i .i64 (some 0), .i .i64 (some 0), .i .i64 (some 0), .i .i64 (some 0)]],fp 14 (fun vz vn vr vc va vd vo wz wn wr wc wa wd wo=>K0 vz vr vc va vd vo vn (1<=vr->1<=vc->vz=1/\va+(vr-1)*vd+(vc-1)*vo<vn)/\K0 wz wr wc wa wd wo wn (1<=wr->1<=wc->wz=1/\wa+(wr-1)*wd+(wc-1)*wo<wn)),[fa (.aF [.f, .i .i64 none]) 14 (fun vz vn vr vc va vd vo wz wn wr wc wa wd wo=>True)],false,208⟩
def rR:aab:=⟨[.agg [.np 0 [.s [.f] (some 0)], .i .i64 (some 0), .i .i64 (some 0), .i .i64 (some 0), .i .i64 (some 0), .i .i64 (some 0)],.agg [.np 0 [.s [.f] (some 0)], .i .i64 (some 0), .i .i64 (some 0), .i .i64 (some 0), .i .i64 (some 0), .i .i64 (some 0)]],fp 14 (fun vz vn vr vc va vd vo wz wn wr wc wa wd wo=>K0 vz vr vc va vd vo vn (1<=vr->1<=vc->vz=1/\va+(vr-1)*vd+(vc-1)*vo<vn)/\K0 wz wr wc wa wd wo wn (1<=wr->1<=wc->wz=1/\wa+(wr-1)*wd+(wc-1)*wo<wn)),[fa (.i .i64 none) 14 (fun vz vn vr vc va vd vo wz wn wr wc wa wd wo=>True)],false,209⟩
def rT:aab:=⟨[.f,.agg [.np 0 [.s [.f] (some 0)], .i .i64 (some 0), .i .i64 (some 0), .i .i64 (some 0), .i .i64 (some 0), .i .i64 (some 0)],.agg [.np 0 [.s [.f] (some 0)], .i .i64 (some 0), .i .i64 (some 0), .i .i64 (some 0), .i .i64 (some 0), .i .i64 (some 0)]],fp 14 (fun vz vn vr vc va vd vo wz wn wr wc wa wd wo=>K0 vz vr vc va vd vo vn (1<=vr->1<=vc->vz=1/\va+(vr-1)*vd+(vc-1)*vo<vn)/\K0 wz wr wc wa wd wo wn (1<=wr->1<=wc->wz=1/\wa+(wr-1)*wd+(wc-1)*wo<wn)),[fa (.i .i64 none) 14 (fun vz vn vr vc va vd vo wz wn wr wc wa wd wo=>True)],false,210⟩
def xS:aab:=⟨[.agg [.np 0 [.s [.f] (some 0)], .i .i64 (some 0), .i .i64 (some 0), .i .i64 (some 0), .i .i64 (some 0), .i .i64 (some 0)],.agg [.np 0 [.s [.f] (some 0)], .i .i64 (some 0), .i .i64 (some 0), .i .i64 (some 0), .i .i64 (some 0), .i .i64 (some 0)]],fp 14 (fun vz vn vr vc va vd vo wz wn wr wc wa wd wo=>K0 vz vr vc va vd vo vn (1<=vr->1<=vc->vz=1/\va+(vr-1)*vd+(vc-1)*vo<vn)/\K0 wz wr wc wa wd wo wn (1<=wr->1<=wc->wz=1/\wa+(wr-1)*wd+(wc-1)*wo<wn)),[fa .f 14 (fun vz vn vr vc va vd vo wz wn wr wc wa wd wo=>True)],false,211⟩
def qh:aab:=⟨[.agg [.np 0 [.s [.f] (some 0)], .i .i64 (some 0), .i .i64 (some 0), .i .i64 (some 0), .i .i64 (some 0), .i .i64 (some 0)],.f],fp 7 (fun vz vn vr vc va vd vo=>K0 vz vr vc va vd vo vn (1<=vr->1<=vc->vz=1/\va+(vr-1)*vd+(vc-1)*vo<vn)),[fa (.aF []) 7 (fun vz vn vr vc va vd vo=>True)],false,212⟩
def uG:aab:=⟨[.agg [.np 0 [.s [.f] (some 0)], .i .i64 (some 0), .i .i64 (some 0), .i .i64 (some 0), .i .i64 (some 0), .i .i64 (some 0)],.agg [.np 0 [.s [.f] (some 0)], .i .i64 (some 0), .i .i64 (some 0), .i .i64 (some 0), .i .i64 (some 0), .i .i64 (some 0)],.f,.f],fp 14 (fun vz vn vr vc va vd vo wz wn wr wc wa wd wo=>K0 vz vr vc va vd vo vn (1<=vr->1<=vc->vz=1/\va+(vr-1)*vd+(vc-1)*vo<vn)/\K0 wz wr wc wa wd wo wn (1<=wr->1<=wc->wz=1/\wa+(wr-1)*wd+(wc-1)*wo<wn)),[fa (.aF []) 14 (fun vz vn vr vc va vd vo wz wn wr wc wa wd wo=>True)],false,213⟩
def mP:aab:=⟨[.f,.f,.f],fp 0 (True),[fa (.aF [.f, .f, .b none]) 0 (True)],false,214⟩
def uH:aab:=⟨[.s [.f] (some 0),.oC [.np 0 [.s [.f] (some 0)], .i .i64 (some 0), .i .i64 (some 0), .i .i64 (some 0), .i .i64 (some 0), .i .i64 (some 0), .np 0 [.s [.f] (some 0)], .i .i64 (some 0), .i .i64 (some 0), .i .i64 (some 0), .i .i64 (some 0), .i .i64 (some 0)] 2],fp 15 (fun n vz vn vr vc va vd vo wz wn wr wc wa wd wo=>K0 vz vr vc va vd vo vn (1<=vr->1<=vc->vz=1/\va+(vr-1)*vd+(vc-1)*vo<vn)/\K0 wz wr wc wa wd wo wn ((1<=wr->1<=wc->wz=1/\wa+(wr-1)*wd+(wc-1)*wo<wn)/\Fv n (va=0/\wa=0))),[fa (.aF []) 15 (fun n vz vn vr vc va vd vo wz wn wr wc wa wd wo=>True)],false,215⟩
def qi:aab:=⟨[.i .i64 (some 0),.p [.np 0 [.s [.f] (some 0)], .i .i64 (some 0), .i .i64 (some 0), .i .i64 (some 0), .i .i64 (some 0), .i .i64 (some 0)],.p [.s [.b none] (some 0)]],fp 9 (fun i vz vn vr vc va vd vo m=>K0 vz vr vc va vd vo vn ((1<=vr->1<=vc->vz=1/\va+(vr-1)*vd+(vc-1)*vo<vn)/\va=0/\0<=m/\m<=512)),[fa (.aF [.agg [.np 0 [.s [.f] (some 0)], .i .i64 (some 0), .i .i64 (some 0), .i .i64 (some 0), .i .i64 (some 0), .i .i64 (some 0)], .f]) 16 (fun i vz vn vr vc va vd vo m wz wn wr wc wa wd wo=>K0 wz wr wc wa wd wo wn (1<=wr->1<=wc->wz=1/\wa+(wr-1)*wd+(wc-1)*wo<wn))],false,216⟩
def uI:aab:=⟨[.agg [.np 0 [.s [.f] (some 0)], .i .i64 (some 0), .i .i64 (some 0), .i .i64 (some 0), .i .i64 (some 0), .i .i64 (some 0)],.s [.f] (some 0)],fp 8 (fun vz vn vr vc va vd vo n=>K0 vz vr vc va vd vo vn ((1<=vr->1<=vc->vz=1/\va+(vr-1)*vd+(vc-1)*vo<vn)/\va=0/\0<=n/\n<=512)),[fa (.aF []) 8 (fun vz vn vr vc va vd vo n=>True)],false,217⟩
def rU:aab:=⟨[.agg [.np 0 [.s [.f] (some 0)], .i .i64 (some 0), .i .i64 (some 0), .i .i64 (some 0), .i .i64 (some 0), .i .i64 (some 0)],.agg [.np 0 [.s [.f] (some 0)], .i .i64 (some 0), .i .i64 (some 0), .i .i64 (some 0), .i .i64 (some 0), .i .i64 (some 0)]],fp 14 (fun vz vn vr vc va vd vo wz wn wr wc wa wd wo=>K0 vz vr vc va vd vo vn (1<=vr->1<=vc->vz=1/\va+(vr-1)*vd+(vc-1)*vo<vn)/\K0 wz wr wc wa wd wo wn ((1<=wr->1<=wc->wz=1/\wa+(wr-1)*wd+(wc-1)*wo<wn)/\va=0/\wa=0)),[fa (.i .i64 (some 0)) 15 (fun vz vn vr vc va vd vo wz wn wr wc wa wd wo k=>0<=k/\k<=1000000000)],false,218⟩
def og:aab:=⟨[.i .i64 (some 0),.i .i64 (some 0)],fp 2 (fun k e=>True),[fa (.aF [.s [.f] (some 0), .agg [.i .i64 (some 0), .i .i64 (some 0), .s [.f] (some 0)], .agg [.i .i64 (some 0), .i .i64 (some 0), .s [.f] (some 0)], .i .i64 (some 0), .i .i64 (some 0)]) 11 (fun k e n r c m p q l x y=>K6 n r c m p (iG q l (x=k/\y=e)))],false,219⟩
def rV:aab:=⟨[.agg [.i .i64 (some 0), .i .i64 (some 0), .s [.f] (some 0)]],fp 3 (fun r c n=>0<=n/\n<=1000000000),[fa (.aF [.s [.f] (some 0), .agg [.i .i64 (some 0), .i .i64 (some 0), .s [.f] (some 0)], .agg [.i .i64 (some 0), .i .i64 (some 0), .s [.f] (some 0)], .i .i64 (some 0), .i .i64 (some 0)]) 12 (fun r c n m ar ac an br bc bn x e=>K5 m an bn (iD bn x (x<=30)))],false,220⟩
def uJ:aab:=⟨[.i .i64 (some 0)],fp 1 (fun n=>True),[fa (.b (some true)) 1 (fun n=>0<=n/\n<=512),fa (.b (some false)) 1 (fun n=>¬(0<=n/\n<=512))],true,221⟩
def oh:aab:=⟨[.s [.s [.f] none, .f] (some 0),.i .i64 (some 0),.i .i64 (some 0)],fp 3 (fun m p q=>0<=m/\m<=1000000000/\0<=q+1/\q<=512),[fa (.b none) 3 (fun m p q=>True)],false,222⟩
def lq:aab:=⟨[.pb [.i .i64 none, .i .i64 none, .s [.f] none],.i .i64 (some 0),.i .i64 (some 0),.agg [.s [.f] (some 0), .f]],fp 3 (fun a f v=>0<=v/\v<=1000000000),[fa (.aF []) 3 (fun a f v=>True)],false,223⟩
def kF:aab:=⟨[.pb [.i .i64 (some 0), .i .i64 (some 0), .s [.f] (some 0)],.i .i64 (some 0),.i .i64 (some 0),.agg [.s [.f] (some 0), .f]],fp 6 (fun r c n a f v=>VA r c n (1<=v/\0<=a/\a+v<=r/\0<=f/\f<=c)),[fa (.aF []) 6 (fun r c n a f v=>True)],false,224⟩
def qj:aab:=⟨[.i .i64 (some 0),.p [.pb [.i .i64 none, .i .i64 none, .s [.f] none]],.p [.i .i64 (some 0)],.p [.s [.s [.f] none, .f] (some 0)]],fp 3 (fun i k m=>bZ i m (0<=k/\k<=1/\m<=1000000000)),[fa (.aF []) 3 (fun i k m=>True)],false,225⟩
def uK:aab:=⟨[.i .i64 (some 0),.i .i64 (some 0),.i .i64 (some 0),.s [.s [.f] none, .f] (some 0)],fp 4 (fun n q k m=>0<=k/\k<=1/\0<=m/\m<=1000000000),[fa (.agg [.i .i64 (some 0), .i .i64 (some 0), .s [.f] (some 0)]) 7 (fun n q k m r c l=>0<=l/\l<=1000000000)],false,226⟩
def Ea:aab:=⟨[.i .i64 (some 0),.s [.s [.f] none, .f] (some 0)],fp 2 (fun n m=>0<=m/\m<=1000000000),[fa (.aF [.agg [.i .i64 (some 0), .i .i64 (some 0), .s [.f] (some 0)], .i .i64 none]) 5 (fun n m r c l=>0<=l/\l<=1000000000)],false,227⟩
def Eb:aab:=⟨[.i .i64 (some 0),.i .i64 (some 0),.s [.s [.f] none, .f] (some 0)],fp 3 (fun n q m=>0<=m/\m<=1000000000),[fa (.aF [.agg [.i .i64 (some 0), .i .i64 (some 0), .s [.f] (some 0)], .i .i64 none]) 6 (fun n q m r c l=>0<=l/\l<=1000000000)],false,228⟩
def om:aab:=⟨[.agg [.np 0 [.s [.f] (some 0)], .i .i64 (some 0), .i .i64 (some 0), .i .i64 (some 0), .i .i64 (some 0), .i .i64 (some 0)]],fp 7 (fun vz vn vr vc va vd vo=>K0 vz vr vc va vd vo vn (1<=vr->1<=vc->vz=1/\va+(vr-1)*vd+(vc-1)*vo<vn)),[fa (.s [.f] (some 0)) 8 (fun vz vn vr vc va vd vo m=>zh m (vz=1->(vr=1->m=vc)/\(vc=1->m=vr)))],false,229⟩
def mQ:aab:=⟨[.pb [.i .i64 (some 0), .i .i64 (some 0), .s [.f] (some 0)],.i .i64 (some 0)],fp 4 (fun r c n k=>VA r c n (bZ k r (k+2<=c))),[fa (.s [.f] (some 0)) 5 (fun r c n k m=>m=c-k-1)],false,230⟩
def jL:aab:=⟨[.pb [.i .i64 (some 0), .i .i64 (some 0), .s [.f] (some 0)],.i .i64 (some 0)],fp 4 (fun r c n k=>VA r c n (bZ k r (k<c))),[fa (.s [.f] (some 0)) 5 (fun r c n k m=>m=r-k)],false,231⟩
def lC:aab:=⟨[.f],fp 0 (True),[fa (.b none) 0 (True)],false,232⟩
def qm:aab:=⟨[.agg [.i .i64 (some 0), .i .i64 (some 0), .s [.f] (some 0)]],fp 3 (fun r c n=>0<=n/\n<=1000000000),[fa (.aF [.agg [.s [.f] (some 0), .s [.f] (some 0)], .s [.s [.f] none, .f] (some 0), .s [.s [.f] none, .f] (some 0), .i .i64 (some 0)]) 8 (fun r c n d q l m x=>K5 d q l (iD l m (m<=1000000000/\(x=0->d=c/\0<=c/\c<=512))))],false,233⟩
def uL:aab:=⟨[.agg [.i .i64 (some 0), .i .i64 (some 0), .s [.f] (some 0)]],fp 3 (fun r c n=>V r c n),[fa (.agg [.s [.f] (some 0), .i .i64 (some 0), .i .i64 (some 0), .s [.f] (some 0), .i .i64 (some 0), .i .i64 (some 0), .s [.f] (some 0), .i .i64 (some 0), .i .i64 (some 0)]) 12 (fun r c n k ur uc um vr vc vm s e=>K5 k um vm (iD vm s (s<=30*c)))],false,234⟩
def qo:aab:=⟨[.agg [.i .i64 (some 0), .i .i64 (some 0), .s [.f] (some 0)]],fp 3 (fun r c n=>V r c n),[fa (.agg [.s [.f] (some 0), .i .i64 (some 0), .i .i64 (some 0), .s [.f] (some 0), .i .i64 (some 0), .i .i64 (some 0), .s [.f] (some 0), .i .i64 (some 0), .i .i64 (some 0)]) 12 (fun r c n k ur uc um vr vc vm s e=>K5 k um vm (iD vm s (s<=30)))],false,235⟩
def rW:aab:=⟨[.agg [.i .i64 (some 0), .i .i64 (some 0), .s [.f] (some 0)],.p [.fn 52 [] []]],fp 3 (fun r c n=>V r c n),[fa (.agg [.s [.f] (some 0), .i .i64 (some 0), .i .i64 (some 0), .s [.f] (some 0), .i .i64 (some 0), .i .i64 (some 0), .s [.f] (some 0), .i .i64 (some 0), .i .i64 (some 0)]) 12 (fun r c n k ur uc um vr vc vm s e=>K5 k um vm (iD vm s (s<=30*r)))],false,236⟩
def qp:aab:=⟨[.agg [.i .i64 (some 0), .i .i64 (some 0), .s [.f] (some 0)],.p [.fn 53 [] []]],fp 3 (fun r c n=>V r c n),[fa (.agg [.s [.f] (some 0), .i .i64 (some 0), .i .i64 (some 0), .s [.f] (some 0), .i .i64 (some 0), .i .i64 (some 0), .s [.f] (some 0), .i .i64 (some 0), .i .i64 (some 0)]) 12 (fun r c n k ur uc um vr vc vm s e=>K5 k um vm (iD vm s (s<=30)))],false,237⟩
def Ec:aab:=⟨[.agg [.i .i64 (some 0), .i .i64 (some 0), .s [.f] (some 0)]],fp 3 (fun r c n=>True),[fa (.i .i64 (some 0)) 4 (fun r c n k=>r<c/\k=1\/¬r<c/\k=0)],false,238⟩
def xU:aab:=⟨[.agg [.i .i64 (some 0), .i .i64 (some 0), .s [.f] (some 0)]],fp 3 (fun r c n=>V r c n),[fa (.aF [.agg [.i .i64 (some 0), .i .i64 (some 0), .s [.f] (some 0)], .i .i64 (some 0)]) 7 (fun r c n r2 c2 n2 p=>K3 n2 r2 c2 (r2<=r/\c2<=c))],false,239⟩
def Ed:aab:=⟨[],fp 0 (True),[fa (.fn 92 [] []) 0 (True)],false,240⟩
def AQ:aab:=⟨[.i .i64 (some 0)],fp 1 (fun w=>True),[fa (.b none) 1 (fun w=>True)],false,241⟩
def Ee:aab:=⟨[],fp 0 (True),[fa (.tab 63 [.agg #[.int .i64 1, .int .i64 0], .agg #[.int .i64 2, .int .i64 0], .agg #[.int .i64 1, .int .i64 1], .agg #[.int .i64 2, .int .i64 1]] [.fn 52 [] [], .fn 53 [] [], .fn 50 [] [.p [.fn 52 [] []]], .fn 50 [] [.p [.fn 53 [] []]]]) 0 (True)],false,242⟩
def qw:aab:=⟨[],fp 0 (True),[fa (.tab 44 [.int .i64 1, .int .i64 2, .int .i64 3] [.fn 75 [] [], .fn 76 [] [], .fn 77 [] []]) 0 (True)],false,243⟩
def table:List (Nat×List (List Nat×aab)):=[(17,[([],AQ)]),
 (19,[([],xU)]),
 (20,[([],Ee)]),
 (21,[([],Ec)]),
 (22,[([],uf)]),
 (23,[([],DZ)]),
 (32,[([],qw)]),
 (34,[([],mI)]),
 (35,[([],mJ)]),
 (36,[([],D5)]),
 (44,[([],Ed)]),
 (47,[([],uy)]),
 (48,[([],uw)]),
 (50,[([2,62],rW),([2,63],qp)]),
 (51,[([],uj)]),
 (52,[([],uL)]),
 (53,[([],qo)]),
 (54,[([],xh)]),
 (55,[([3,1],DX),([3,2],Aq),([3,3],xA)]),
 (56,[([],Hr)]),
 (57,[([],uk)]),
 (58,[([],xC)]),
 (59,[([],Ar)]),
 (60,[([],xq)]),
 (61,[([3,4],DY),([3,2],Aw)]),
 (62,[([2,2,2],xE)]),
 (63,[([],Av)]),
 (64,[([],xD)]),
 (65,[([2,2,2],xG)]),
 (66,[([2,2,2,2,2,2],xH)]),
 (67,[([],pM)]),
 (68,[([2,2,2,2,2,2],xI)]),
 (75,[([],pR)]),
 (79,[([],xe)]),
 (80,[([],nP)]),
 (81,[([],AB)]),
 (82,[([],dZ)]),
 (83,[([2,2],xJ)]),
 (84,[([2,2,2,2,2],xK)]),
 (93,[([104],dQ)]),
 (94,[([],rA)]),
 (95,[([],rz)]),
 (96,[([],pI)]),
 (97,[([],uu)]),
 (98,[([],xM)]),
 (99,[([],uq)]),
 (100,[([],qm)]),
 (101,[([],Eb)]),
 (102,[([],Ea)]),
 (103,[([],D7)]),
 (104,[([],rV)]),
 (106,[([],xg)]),
 (107,[([3,1,118],bQ),([3,2,118],bN),([3,3,118],bM)]),
 (108,[([],xy)]),
 (109,[([145],dI),([283],dE),([245],dz),([120],dh),([170],bW),([251],bT)]),
 (110,[([],pG)]),
 (111,[([],wX)]),
 (112,[([],wY)]),
 (113,[([],DU)]),
 (114,[([],xx)]),
 (115,[([],rD)]),
 (116,[([],xB)]),
 (117,[([],Al)]),
 (118,[([],KC)]),
 (119,[([130,2,2,2],rE),([135,2,2,2,2,2,2,2],pK)]),
 (120,[([2,2,2],uo)]),
 (121,[([],DW)]),
 (122,[([],Au)]),
 (123,[([],DT)]),
 (124,[([],DV)]),
 (125,[([2,2,2,2,2,2,2],mG)]),
 (130,[([],D6)]),
 (135,[([],kR)]),
 (136,[([],fE)]),
 (137,[([],rG)]),
 (138,[([2,2],kU)]),
 (139,[([150,2,2,2,2,148,2,2],uD),([151,2,2,148,2,2],rO)]),
 (140,[([2,2,2,2,148,2,2],kV)]),
 (141,[([2,2,148,2,2],kW)]),
 (142,[([],rC)]),
 (143,[([],kS)]),
 (153,[([104],eO)]),
 (154,[([],tZ)]),
 (155,[([],Ay)]),
 (156,[([],rF)]),
 (158,[([],xL)]),
 (159,[([],Hu)]),
 (160,[([],mq),([],lC)]),
 (161,[([6],jL)]),
 (162,[([5],lq),([6],kF)]),
 (163,[([6],mQ)]),
 (164,[([],pO)]),
 (165,[([],uJ)]),
 (166,[([],oh)]),
 (167,[([],uK)]),
 (168,[([],xO)]),
 (169,[([],KF)]),
 (170,[([],KE)]),
 (171,[([],Ai)]),
 (172,[([],DC)]),
 (173,[([5],nM)]),
 (174,[([5],nN)]),
 (175,[([309,2,2],xP),([250],uC),([186],rM)]),
 (176,[([],xN)]),
 (177,[([5],nO)]),
 (178,[([],AA)]),
 (179,[([],og)]),
 (180,[([],pJ)]),
 (181,[([],D9)]),
 (182,[([4,4],rU)]),
 (183,[([],wZ)]),
 (184,[([4],p8)]),
 (185,[([4],kZ)]),
 (186,[([4],qh)]),
 (187,[([3,2],uH)]),
 (188,[([4],uI)]),
 (189,[([],nJ)]),
 (190,[([],pF)]),
 (191,[([],DD)]),
 (192,[([3,1,118],di),([3,2,118],bX),([3,3,118],bU)]),
 (193,[([145],dW),([283],dP),([245],dM),([120],dJ),([170],dF),([251],dA)]),
 (194,[([],Ao)]),
 (195,[([],He)]),
 (196,[([],Am)]),
 (197,[([],Hq)]),
 (198,[([],DK)]),
 (199,[([],Ak)]),
 (200,[([],Hm)]),
 (201,[([],DF)]),
 (202,[([],DN)]),
 (203,[([],xu)]),
 (204,[([],G7)]),
 (205,[([],Ap)]),
 (207,[([],uz)]),
 (208,[([],KD)]),
 (209,[([],Ah)]),
 (210,[([5],rJ)]),
 (211,[([5],nL)]),
 (212,[([],Az)]),
 (221,[([],tV)]),
 (222,[([],ug)]),
 (223,[([234,2,2,2,2],uh),([242,2,2,2,2],rH)]),
 (224,[([2,2,2,2],nK)]),
 (225,[([],kE)]),
 (229,[([],D8)]),
 (230,[([4],om)]),
 (231,[([4],nU)]),
 (232,[([2,2,2,2],mH)]),
 (233,[([],xQ)]),
 (234,[([2,2,2],qj)]),
 (235,[([],tY)]),
 (236,[([5],kT)]),
 (237,[([],OH)]),
 (238,[([],w9)]),
 (239,[([],uB)]),
 (240,[([],uA)]),
 (241,[([],mr)]),
 (242,[([4],nT)]),
 (243,[([4],nQ)]),
 (244,[([4],nS)]),
 (245,[([],mP)]),
 (246,[([4,4],xS)]),
 (247,[([4,4],uG)]),
 (248,[([],Af)]),
 (249,[([4],pV)]),
 (250,[([4],pW)]),
 (251,[([4],pY)]),
 (252,[([4],pX)]),
 (253,[([4,4],rR)]),
 (254,[([2,2],qi)]),
 (255,[([4],nR)]),
 (256,[([4,4],rT)]),
 (257,[([4,4],nW)]),
 (258,[([],DL)]),
 (259,[([],DI)]),
 (260,[([],Hd)]),
 (261,[([],DJ)]),
 (262,[([],xm)]),
 (263,[([],Ho)]),
 (264,[([],fT)]),
 (266,[([],Hl)]),
 (267,[([2],xw)]),
 (268,[([],G8)]),
 (269,[([],Ha)]),
 (270,[([],mE)]),
 (271,[([],G6)]),
 (273,[([],tX)]),
 (274,[([5],pQ)]),
 (296,[([3,2],AJ)]),
 (297,[([],lg)]),
 (298,[([4],mK)]),
 (299,[([2,2],Ht)]),
 (300,[([4],pU)]),
 (301,[([4,4],uF)]),
 (304,[([4],rP)]),
 (305,[([4],kY)]),
 (306,[([4],mM)]),
 (307,[([350,2,2,3,2],rQ),([321,2,2,3,2],qg),([318,2,2,3,2],nZ)]),
 (308,[([2,2],nY)]),
 (309,[([4,4],lh)]),
 (310,[([4],nV)]),
 (311,[([2,2],nX)]),
 (312,[([3,1],mO)]),
 (313,[([],ui)]),
 (314,[([],mD)]),
 (316,[([],xk)]),
 (317,[([2],Aj)]),
 (318,[([],G9)]),
 (319,[([],Hg)]),
 (339,[([4],kX)]),
 (340,[([2,2],qf)]),
 (341,[([262,262],uE)]),
 (342,[([3,2],p9)]),
 (344,[([],Hf)]),
 (354,[([4,4],AP),([4,1],xR)]),
 (373,[([],AO)])]
def tab:FuncId->List TV->Option aab:=fun f l=>RZ table f (GY l)
def VD (cs:List TV) (K:List TV->Prop):Prop:=match cs with
 | [.p [.np z [.s [.f] (some n)], .i .i64 (some r), .i .i64 (some c), .i .i64 (some a), .i .i64 (some d), .i .i64 (some o)]]=>
  (0<=z/\z<=1/\0<=r/\r<=512/\0<=c/\c<=512/\0<=a/\a<=1000000000000/\0<=d/\d<=1000000/\0<=o/\o<=1000000/\n<=1000000000/\(1<=r->1<=c->z=1/\a+(r - 1)*d+(c - 1)*o < n))/\∀i j:Int,0<=i->i < r->0<=j->j < c->K [.agg [.i .i64 (some i), .i .i64 (some j)], .f]
 | _=>False
def its0:rq:=fun _ _ _=>False
def QB (cs:List TV) (K:List TV->Prop):Prop:=match cs with
 | []=>∀i:Int,1<=i->i<=2->K [.i .i64 (some i)]
 | _=>False
def its:rq:=fun f cs K=>bif Nat.beq f 303 then VD cs K else bif Nat.beq f 92 then QB cs K else False
end Go.Proofs.YtgledbghdhjgkaaGreatDoor
namespace Go.Proofs.YtgledbghdhjgkaaGreatDoor
open Go Go.TM
theorem ah (w0:World):au Tryz.prog w0 its0:=fun _ _ _ h=>h.elim
def ag (w0:World) (r:Nat):Prop:=∀f l F,tab f l=some F->F.rank < r->aD Tryz.prog w0 f F
theorem bf (r c:Int):0<=r->r<=512->0<=c->c<=512->0<=r*c/\r*c<=262144:=fun h1 h2 h3 h4=>
 ⟨Int.mul_nonneg h1 h3,Int.le_trans (Int.mul_le_mul h2 h4 h3 (by omega)) (by omega)⟩
theorem VE {a b:Int}:0<=a->a<=4294967295->0<=b->b<=4294967295->0<=a*b/\a*b<=18446744065119617025:=fun h1 h2 h3 h4=>
 ⟨Int.mul_nonneg h1 h3,Int.le_trans (Int.mul_le_mul h2 h4 h3 (by omega)) (by omega)⟩
theorem mulw1 {a b:Int} (h1:0<=a) (h2:a<=4294967295) (h3:0<=b) (h4:b<=4294967295):a*b<=18446744073709551615:=by have:=VE h1 h2 h3 h4;omega
theorem mulw2 {a b c:Int} (h1:0<=a) (h2:a<=4294967295) (h3:0<=b) (h4:b<=4294967295) (h5:c<=4294967295):c+a*b<=18446744073709551615:=by have:=VE h1 h2 h3 h4;omega
theorem mulw3 {a b c:Int} (h1:0<=a) (h2:a<=4294967295) (h3:0<=b) (h4:b<=4294967295) (h5:c<=4294967295):a*b+c<=18446744073709551615:=by have:=VE h1 h2 h3 h4;omega
theorem mulw4 {a b c:Int} (h1:0<=a) (h2:a<=4294967295) (h3:0<=b) (h4:b<=4294967295) (h5:0<=c):0<=c+a*b:=by have:=VE h1 h2 h3 h4;omega
theorem mulw5 {a b c:Int} (h1:0<=a) (h2:a<=4294967295) (h3:0<=b) (h4:b<=4294967295) (h5:0<=c):0<=a*b+c:=by have:=VE h1 h2 h3 h4;omega
theorem uM (i m f:Int):0<=i->i<=m->0<=f->0<=i*f/\i*f<=m*f:=fun h1 h2 h3=>⟨Int.mul_nonneg h1 h3,Int.mul_le_mul_of_nonneg_right h2 h3⟩
theorem OI (a b:Int):0<=a->a<=1000000->0<=b->b<=1000000->0<=a*b/\a*b<=1000000000000:=fun h1 h2 h3 h4=>
 ⟨Int.mul_nonneg h1 h3,Int.le_trans (Int.mul_le_mul h2 h4 h3 (by omega)) (by omega)⟩
theorem Xu (a b c:Int):a=b->a*c=b*c:=fun h=>by rw [h]
theorem Zh (a b c:Int):a=b->c*a=c*b:=fun h=>by rw [h]
theorem mulm (m n:Int):0<=m->m<=512->0<=n->n<=512->0<=64*max m 1*max n 1/\64*max m 1*max n 1<=16777216:=fun h1 h2 h3 h4=>by
 have h5:0<=64*max m 1/\64*max m 1<=32768:=by omega
 have h6:0<=max n 1/\max n 1<=512:=by omega
 exact⟨Int.mul_nonneg h5.1 h6.1,Int.le_trans (Int.mul_le_mul h5.2 h6.2 h6.1 (by omega)) (by omega)⟩
theorem mulo (a b:Int):(a=1->a*b=b)/\(b=1->a*b=a):=⟨fun h=>by rw [h,Int.one_mul],fun h=>by rw [h,Int.mul_one]⟩
theorem eT (i m n:Int):0<=i->i+1<=m->0<=n->0<=i*n/\i*n+n<=m*n:=fun h1 h2 h3=>
 ⟨Int.mul_nonneg h1 h3,by
  have:=Int.mul_le_mul_of_nonneg_right h2 h3
  rw [Int.add_mul,Int.one_mul] at this;exact this⟩
theorem len0 {l:List Int} (h:l.length=0):l=[]:=List.length_eq_zero_iff.1 h
theorem Xv {l:List Int} (h:l.length=1):∃a,l=[a]:=match l,h with | [a],_=>⟨a,rfl⟩
theorem len2 {l:List Int} (h:l.length=2):∃a b,l=[a,b]:=match l,h with | [a,b],_=>⟨a,b,rfl⟩
theorem len3 {l:List Int} (h:l.length=3):∃a b c,l=[a,b,c]:=match l,h with | [a,b,c],_=>⟨a,b,c,rfl⟩
theorem len4 {l:List Int} (h:l.length=4):∃a b c d,l=[a,b,c,d]:=match l,h with | [a,b,c,d],_=>⟨a,b,c,d,rfl⟩
theorem len5 {l:List Int} (h:l.length=5):∃a b c d e,l=[a,b,c,d,e]:=match l,h with | [a,b,c,d,e],_=>⟨a,b,c,d,e,rfl⟩
theorem len6 {l:List Int} (h:l.length=6):∃a b c d e f,l=[a,b,c,d,e,f]:=match l,h with | [a,b,c,d,e,f],_=>⟨a,b,c,d,e,f,rfl⟩
theorem len7 {l:List Int} (h:l.length=7):∃a b c d e f g,l=[a,b,c,d,e,f,g]:=match l,h with | [a,b,c,d,e,f,g],_=>⟨a,b,c,d,e,f,g,rfl⟩
theorem len8 {l:List Int} (h:l.length=8):∃a b c d e f g i,l=[a,b,c,d,e,f,g,i]:=match l,h with | [a,b,c,d,e,f,g,i],_=>⟨a,b,c,d,e,f,g,i,rfl⟩
theorem len9 {l:List Int} (h:l.length=9):∃a b c d e f g i j,l=[a,b,c,d,e,f,g,i,j]:=match l,h with | [a,b,c,d,e,f,g,i,j],_=>⟨a,b,c,d,e,f,g,i,j,rfl⟩
theorem len10 {l:List Int} (h:l.length=10):∃a b c d e f g i j k,l=[a,b,c,d,e,f,g,i,j,k]:=match l,h with | [a,b,c,d,e,f,g,i,j,k],_=>⟨a,b,c,d,e,f,g,i,j,k,rfl⟩
theorem len11 {l:List Int} (h:l.length=11):∃a b c d e f g i j k m,l=[a,b,c,d,e,f,g,i,j,k,m]:=match l,h with | [a,b,c,d,e,f,g,i,j,k,m],_=>⟨a,b,c,d,e,f,g,i,j,k,m,rfl⟩
theorem len12 {l:List Int} (h:l.length=12):∃a b c d e f g i j k m n,l=[a,b,c,d,e,f,g,i,j,k,m,n]:=match l,h with | [a,b,c,d,e,f,g,i,j,k,m,n],_=>⟨a,b,c,d,e,f,g,i,j,k,m,n,rfl⟩
theorem len13 {l:List Int} (h:l.length=13):∃x0 x1 x2 x3 x4 x5 x6 x7 x8 x9 iy iA iB,l=[x0,x1,x2,x3,x4,x5,x6,x7,x8,x9,iy,iA,iB]:=match l,h with | [x0,x1,x2,x3,x4,x5,x6,x7,x8,x9,iy,iA,iB],_=>⟨x0,x1,x2,x3,x4,x5,x6,x7,x8,x9,iy,iA,iB,rfl⟩
theorem len14 {l:List Int} (h:l.length=14):∃x0 x1 x2 x3 x4 x5 x6 x7 x8 x9 iy iA iB iO,l=[x0,x1,x2,x3,x4,x5,x6,x7,x8,x9,iy,iA,iB,iO]:=match l,h with | [x0,x1,x2,x3,x4,x5,x6,x7,x8,x9,iy,iA,iB,iO],_=>⟨x0,x1,x2,x3,x4,x5,x6,x7,x8,x9,iy,iA,iB,iO,rfl⟩
theorem len15 {l:List Int} (h:l.length=15):∃x0 x1 x2 x3 x4 x5 x6 x7 x8 x9 iy iA iB iO jb,l=[x0,x1,x2,x3,x4,x5,x6,x7,x8,x9,iy,iA,iB,iO,jb]:=match l,h with | [x0,x1,x2,x3,x4,x5,x6,x7,x8,x9,iy,iA,iB,iO,jb],_=>⟨x0,x1,x2,x3,x4,x5,x6,x7,x8,x9,iy,iA,iB,iO,jb,rfl⟩
theorem len16 {l:List Int} (h:l.length=16):∃x0 x1 x2 x3 x4 x5 x6 x7 x8 x9 iy iA iB iO jb jH,l=[x0,x1,x2,x3,x4,x5,x6,x7,x8,x9,iy,iA,iB,iO,jb,jH]:=match l,h with | [x0,x1,x2,x3,x4,x5,x6,x7,x8,x9,iy,iA,iB,iO,jb,jH],_=>⟨x0,x1,x2,x3,x4,x5,x6,x7,x8,x9,iy,iA,iB,iO,jb,jH,rfl⟩
theorem len17 {l:List Int} (h:l.length=17):∃x0 x1 x2 x3 x4 x5 x6 x7 x8 x9 iy iA iB iO jb jH jW,l=[x0,x1,x2,x3,x4,x5,x6,x7,x8,x9,iy,iA,iB,iO,jb,jH,jW]:=match l,h with | [x0,x1,x2,x3,x4,x5,x6,x7,x8,x9,iy,iA,iB,iO,jb,jH,jW],_=>⟨x0,x1,x2,x3,x4,x5,x6,x7,x8,x9,iy,iA,iB,iO,jb,jH,jW,rfl⟩
theorem len18 {l:List Int} (h:l.length=18):∃x0 x1 x2 x3 x4 x5 x6 x7 x8 x9 iy iA iB iO jb jH jW kM,l=[x0,x1,x2,x3,x4,x5,x6,x7,x8,x9,iy,iA,iB,iO,jb,jH,jW,kM]:=match l,h with | [x0,x1,x2,x3,x4,x5,x6,x7,x8,x9,iy,iA,iB,iO,jb,jH,jW,kM],_=>⟨x0,x1,x2,x3,x4,x5,x6,x7,x8,x9,iy,iA,iB,iO,jb,jH,jW,kM,rfl⟩
theorem len19 {l:List Int} (h:l.length=19):∃x0 x1 x2 x3 x4 x5 x6 x7 x8 x9 iy iA iB iO jb jH jW kM mR,l=[x0,x1,x2,x3,x4,x5,x6,x7,x8,x9,iy,iA,iB,iO,jb,jH,jW,kM,mR]:=match l,h with | [x0,x1,x2,x3,x4,x5,x6,x7,x8,x9,iy,iA,iB,iO,jb,jH,jW,kM,mR],_=>⟨x0,x1,x2,x3,x4,x5,x6,x7,x8,x9,iy,iA,iB,iO,jb,jH,jW,kM,mR,rfl⟩
theorem len20 {l:List Int} (h:l.length=20):∃x0 x1 x2 x3 x4 x5 x6 x7 x8 x9 iy iA iB iO jb jH jW kM mR oF,l=[x0,x1,x2,x3,x4,x5,x6,x7,x8,x9,iy,iA,iB,iO,jb,jH,jW,kM,mR,oF]:=match l,h with | [x0,x1,x2,x3,x4,x5,x6,x7,x8,x9,iy,iA,iB,iO,jb,jH,jW,kM,mR,oF],_=>⟨x0,x1,x2,x3,x4,x5,x6,x7,x8,x9,iy,iA,iB,iO,jb,jH,jW,kM,mR,oF,rfl⟩
theorem len21 {l:List Int} (h:l.length=21):∃x0 x1 x2 x3 x4 x5 x6 x7 x8 x9 iy iA iB iO jb jH jW kM mR oF x20,l=[x0,x1,x2,x3,x4,x5,x6,x7,x8,x9,iy,iA,iB,iO,jb,jH,jW,kM,mR,oF,x20]:=match l,h with | [x0,x1,x2,x3,x4,x5,x6,x7,x8,x9,iy,iA,iB,iO,jb,jH,jW,kM,mR,oF,x20],_=>⟨x0,x1,x2,x3,x4,x5,x6,x7,x8,x9,iy,iA,iB,iO,jb,jH,jW,kM,mR,oF,x20,rfl⟩
theorem len22 {l:List Int} (h:l.length=22):∃x0 x1 x2 x3 x4 x5 x6 x7 x8 x9 iy iA iB iO jb jH jW kM mR oF x20 uN,l=[x0,x1,x2,x3,x4,x5,x6,x7,x8,x9,iy,iA,iB,iO,jb,jH,jW,kM,mR,oF,x20,uN]:=match l,h with | [x0,x1,x2,x3,x4,x5,x6,x7,x8,x9,iy,iA,iB,iO,jb,jH,jW,kM,mR,oF,x20,uN],_=>⟨x0,x1,x2,x3,x4,x5,x6,x7,x8,x9,iy,iA,iB,iO,jb,jH,jW,kM,mR,oF,x20,uN,rfl⟩
theorem len23 {l:List Int} (h:l.length=23):∃x0 x1 x2 x3 x4 x5 x6 x7 x8 x9 iy iA iB iO jb jH jW kM mR oF x20 uN yC,l=[x0,x1,x2,x3,x4,x5,x6,x7,x8,x9,iy,iA,iB,iO,jb,jH,jW,kM,mR,oF,x20,uN,yC]:=match l,h with | [x0,x1,x2,x3,x4,x5,x6,x7,x8,x9,iy,iA,iB,iO,jb,jH,jW,kM,mR,oF,x20,uN,yC],_=>⟨x0,x1,x2,x3,x4,x5,x6,x7,x8,x9,iy,iA,iB,iO,jb,jH,jW,kM,mR,oF,x20,uN,yC,rfl⟩
theorem len24 {l:List Int} (h:l.length=24):∃x0 x1 x2 x3 x4 x5 x6 x7 x8 x9 iy iA iB iO jb jH jW kM mR oF x20 uN yC Ct,l=[x0,x1,x2,x3,x4,x5,x6,x7,x8,x9,iy,iA,iB,iO,jb,jH,jW,kM,mR,oF,x20,uN,yC,Ct]:=match l,h with | [x0,x1,x2,x3,x4,x5,x6,x7,x8,x9,iy,iA,iB,iO,jb,jH,jW,kM,mR,oF,x20,uN,yC,Ct],_=>⟨x0,x1,x2,x3,x4,x5,x6,x7,x8,x9,iy,iA,iB,iO,jb,jH,jW,kM,mR,oF,x20,uN,yC,Ct,rfl⟩
theorem len25 {l:List Int} (h:l.length=25):∃x0 x1 x2 x3 x4 x5 x6 x7 x8 x9 iy iA iB iO jb jH jW kM mR oF x20 uN yC Ct x24,l=[x0,x1,x2,x3,x4,x5,x6,x7,x8,x9,iy,iA,iB,iO,jb,jH,jW,kM,mR,oF,x20,uN,yC,Ct,x24]:=match l,h with | [x0,x1,x2,x3,x4,x5,x6,x7,x8,x9,iy,iA,iB,iO,jb,jH,jW,kM,mR,oF,x20,uN,yC,Ct,x24],_=>⟨x0,x1,x2,x3,x4,x5,x6,x7,x8,x9,iy,iA,iB,iO,jb,jH,jW,kM,mR,oF,x20,uN,yC,Ct,x24,rfl⟩
theorem len26 {l:List Int} (h:l.length=26):∃x0 x1 x2 x3 x4 x5 x6 x7 x8 x9 iy iA iB iO jb jH jW kM mR oF x20 uN yC Ct x24 x25,l=[x0,x1,x2,x3,x4,x5,x6,x7,x8,x9,iy,iA,iB,iO,jb,jH,jW,kM,mR,oF,x20,uN,yC,Ct,x24,x25]:=match l,h with | [x0,x1,x2,x3,x4,x5,x6,x7,x8,x9,iy,iA,iB,iO,jb,jH,jW,kM,mR,oF,x20,uN,yC,Ct,x24,x25],_=>⟨x0,x1,x2,x3,x4,x5,x6,x7,x8,x9,iy,iA,iB,iO,jb,jH,jW,kM,mR,oF,x20,uN,yC,Ct,x24,x25,rfl⟩
theorem len27 {l:List Int} (h:l.length=27):∃x0 x1 x2 x3 x4 x5 x6 x7 x8 x9 iy iA iB iO jb jH jW kM mR oF x20 uN yC Ct x24 x25 QC,l=[x0,x1,x2,x3,x4,x5,x6,x7,x8,x9,iy,iA,iB,iO,jb,jH,jW,kM,mR,oF,x20,uN,yC,Ct,x24,x25,QC]:=match l,h with | [x0,x1,x2,x3,x4,x5,x6,x7,x8,x9,iy,iA,iB,iO,jb,jH,jW,kM,mR,oF,x20,uN,yC,Ct,x24,x25,QC],_=>⟨x0,x1,x2,x3,x4,x5,x6,x7,x8,x9,iy,iA,iB,iO,jb,jH,jW,kM,mR,oF,x20,uN,yC,Ct,x24,x25,QC,rfl⟩
theorem len28 {l:List Int} (h:l.length=28):∃x0 x1 x2 x3 x4 x5 x6 x7 x8 x9 iy iA iB iO jb jH jW kM mR oF x20 uN yC Ct x24 x25 QC x27,l=[x0,x1,x2,x3,x4,x5,x6,x7,x8,x9,iy,iA,iB,iO,jb,jH,jW,kM,mR,oF,x20,uN,yC,Ct,x24,x25,QC,x27]:=match l,h with | [x0,x1,x2,x3,x4,x5,x6,x7,x8,x9,iy,iA,iB,iO,jb,jH,jW,kM,mR,oF,x20,uN,yC,Ct,x24,x25,QC,x27],_=>⟨x0,x1,x2,x3,x4,x5,x6,x7,x8,x9,iy,iA,iB,iO,jb,jH,jW,kM,mR,oF,x20,uN,yC,Ct,x24,x25,QC,x27,rfl⟩
theorem len29 {l:List Int} (h:l.length=29):∃x0 x1 x2 x3 x4 x5 x6 x7 x8 x9 iy iA iB iO jb jH jW kM mR oF x20 uN yC Ct x24 x25 QC x27 x28,l=[x0,x1,x2,x3,x4,x5,x6,x7,x8,x9,iy,iA,iB,iO,jb,jH,jW,kM,mR,oF,x20,uN,yC,Ct,x24,x25,QC,x27,x28]:=match l,h with | [x0,x1,x2,x3,x4,x5,x6,x7,x8,x9,iy,iA,iB,iO,jb,jH,jW,kM,mR,oF,x20,uN,yC,Ct,x24,x25,QC,x27,x28],_=>⟨x0,x1,x2,x3,x4,x5,x6,x7,x8,x9,iy,iA,iB,iO,jb,jH,jW,kM,mR,oF,x20,uN,yC,Ct,x24,x25,QC,x27,x28,rfl⟩
theorem len30 {l:List Int} (h:l.length=30):∃x0 x1 x2 x3 x4 x5 x6 x7 x8 x9 iy iA iB iO jb jH jW kM mR oF x20 uN yC Ct x24 x25 QC x27 x28 x29,l=[x0,x1,x2,x3,x4,x5,x6,x7,x8,x9,iy,iA,iB,iO,jb,jH,jW,kM,mR,oF,x20,uN,yC,Ct,x24,x25,QC,x27,x28,x29]:=match l,h with | [x0,x1,x2,x3,x4,x5,x6,x7,x8,x9,iy,iA,iB,iO,jb,jH,jW,kM,mR,oF,x20,uN,yC,Ct,x24,x25,QC,x27,x28,x29],_=>⟨x0,x1,x2,x3,x4,x5,x6,x7,x8,x9,iy,iA,iB,iO,jb,jH,jW,kM,mR,oF,x20,uN,yC,Ct,x24,x25,QC,x27,x28,x29,rfl⟩
theorem Tp (a b c d:Int):a=b->c=d->a*c=b*d:=fun h k=>by rw [h,k]
theorem Hw:∀{n:Nat} {K:List Int->Prop},allI n K->∀l:List Int,l.length=n->K l
 | 0,K,h,[],_=>h
 | n+1,K,h,x::l,e=>Hw (h x) l (by simpa using e)
 | 0,_,_,_::_,e=>by simp at e
 | _+1,_,_,[],e=>by simp at e
theorem lv {xs:List Int} {a:Alt} {R:List Alt} (ys:List Int) (hl:ys.length=TV.cnt a.R) (h:a.post xs ys):∃v,bJ xs (a::R) v:=⟨_,a,List.mem_cons_self ..,ys,hl,h,rfl⟩
def goF (IT:rq) (an:List Int->Nat->Option (List TV)) (iv:List Int->Nat->Option LI) (F:aab) (l:List Int):Option Func->Prop
 | none=>False
 | some fn=>match TV.dY (TV.fills F.A l).1 with
  | false=>False
  | true=>wFn xs Y7 (Qc tab F.rank) IT (an l) (iv l) fn (TV.fills F.A l).1 (fun v=>N8 F.fork v fun v=>Lv l v F.R)
def goC (IT:rq) (an:List Int->Nat->Option (List TV)) (iv:List Int->Nat->Option LI) (F:aab) (f:Nat) (l:List Int):Prop:=goF IT an iv F l Tryz.prog.funcs[f]?
def R5:Option Func->Bool
 | some fn=>fn.body.isSome
 | none=>false
set_option maxRecDepth 100000 in
theorem cn {w0:World} {IT:rq} {F:aab} {f:Nat} (n:Nat) (hx:(Nat.beq (TV.oD F.A) n&&R5 Tryz.prog.funcs[f]?)=true) (an:List Int->Nat->Option (List TV)) (iv:List Int->Nat->Option LI) (hi:au Tryz.prog w0 IT) (ht:ag w0 F.rank)
  (hl:allI n fun l=>F.pre l->∃v,bJ l F.R v) (h:allI n fun l=>F.pre l->goC IT an iv F f l):aD Tryz.prog w0 f F:=by
 obtain⟨h1,h2⟩:=Bool.and_eq_true_iff.1 hx
 have h1:=Nat.eq_of_beq_eq_true h1
 obtain⟨o,ho⟩:∃o,Tryz.prog.funcs[f]?=o:=⟨_,rfl⟩
 have hg:∀l,goC IT an iv F f l=goF IT an iv F l o:=fun l=>by rw [<- ho];rfl
 rw [ho] at h2
 cases o with
 | none=>cases h2
 | some fn=>
  cases hb:fn.body with
  | none=>simp [R5,hb] at h2
  | some c=>
   refine aD.G5 an iv mixed' bG bI hi ht (aO f fn c ho hb) ho (fun l e hp=>Hw hl l (e.trans h1) hp) (fun l e hp=>?_)
   have hq:=Hw h l (e.trans h1) hp
   rw [hg l] at hq
   unfold goF at hq
   simp only at hq
   split at hq
   ·exact hq.elim
   ·rename_i q;exact⟨q,hq⟩
end Go.Proofs.YtgledbghdhjgkaaGreatDoor
namespace Go.TM
open Go Go.RowKit Go.AM
section
variable {P:Program} {w0:World}
abbrev Extra:=FuncId->List TV->Option (Prop×List Int×List Alt)
def exK (E:Extra) (SP:Spec):Spec:=fun f l K=>match E f l with
 | some (p,xs,R)=>p/\N9 xs K R
 | none=>SP f l K
structure aL (P:Program) (w0:World) (E:Extra):Prop where
 goes:∀f l p xs R,E f l=some (p,xs,R)->p->Goes P f
 live:∀f l p xs R,E f l=some (p,xs,R)->p->∃v,bJ xs R v
 call:∀f l p xs R,E f l=some (p,xs,R)->p->∀g,av P w0 f l g fun v g'=>bJ xs R v/\g'=g
theorem bA {E:Extra} {SP:Spec} (h:aL P w0 E) (hSP:r9 P w0 SP):r9 P w0 (exK E SP):=fun f l K hk=>by
 unfold exK at hk
 split at hk
 ·rename_i p xs R he
  obtain⟨h1,h2⟩:=hk
  exact⟨h.goes f l p xs R he h1,fun g=>(h.call f l p xs R he h1 g).mono fun v g' ⟨q1,q2⟩=>⟨lV.1 h2 v q1,q2⟩⟩
 ·exact hSP f l K hk
theorem aP {E:Extra} {SP:Spec} (h:aL P w0 E) (hS:mo SP):mo (exK E SP):=fun f l=>by
 unfold exK
 split
 ·rename_i p xs R he
  exact⟨p,fun v=>bJ xs R v,fun K=>⟨fun⟨h1,h2⟩=>⟨h1,lV.1 h2⟩,fun⟨h1,h2⟩=>⟨h1,lV.2 h2⟩⟩,fun hp=>h.live f l p xs R he hp⟩
 ·exact hS f l
theorem av.G5 {X:Nat->Option XK} {Y:iM} {IT:rq} {SP:Spec} {an:Nat->Option (List TV)} {iv:Nat->Option LI} {f:FuncId} {fn:Func} {l:List TV} {xs:List Int} {R:List Alt} (hmx:P.follows .mixedOrders=true) (hX:∀f x,X f=some x->C8 P f x) (hY:ky P w0 Y) (hIT:au P w0 IT) (hSP:r9 P w0 SP) (hS:mo SP)
  (hf:P.funcs[f]?=some fn) (h1:TV.dY l=true) (h2:wFn X Y SP IT an iv fn l (fun v=>Lv xs v R)) (g:G):av P w0 f l g fun v g'=>bJ xs R v/\g'=g:=by
 refine(Co hX hY hSP hIT (GX hmx hX hY hSP hS) hf h1 h2 g).Ch ?_
 rintro v g' ⟨h3,rfl⟩
 obtain⟨v',q1,q2⟩:=Ae h3
 exact⟨v',⟨q1,rfl⟩,q2⟩
end
end Go.TM
namespace Go.Proofs.YtgledbghdhjgkaaGreatDoor
open Go Go.TM
set_option maxRecDepth 100000
def exA (W:Value) (Q:Int->Int->Int->Prop):Extra:=fun f l=>
 bif Nat.beq f 33 then (match l with
  | [.i .i64 (some n),x]=>some (x= .val W,[n],[⟨.aF [.agg [.i .i64 (some 0), .i .i64 (some 0), .s [.f] (some 0)], .i .i64 (some 0)],fun | [n]=>(fun | [r,c,k,e]=>(e=0->Q 1 n n/\r=n/\c=n/\k=n*n/\0<=n/\n<=512)/\0<=k/\k<=262144/\0<=e/\e<=10 | _=>False) | _=>fun _=>False⟩])
  | _=>none)
 else bif Nat.beq f 18 then (match l with
  | [.i .i64 (some m), .i .i64 (some n),x]=>some (x= .val W,[m,n],[⟨.aF [.agg [.i .i64 (some 0), .i .i64 (some 0), .s [.f] (some 0)], .i .i64 (some 0)],fun | [m,n]=>(fun | [r,c,k,e]=>(e=0->Q 0 m n/\r=m/\c=n/\k=m*n/\0<=m/\m<=512/\0<=n/\n<=512)/\0<=k/\k<=262144/\0<=e/\e<=10 | _=>False) | _=>fun _=>False⟩])
  | _=>none)
 else none
def altE (Q:Int->Int->Int->Prop):Alt:=⟨.agg [.i .i64 (some 0), .s [.f] (some 0), .i .i64 (some 0), .i .i64 (some 0), .s [.f] (some 0), .i .i64 (some 0)],fun | [n]=>(fun | [_,_,_,_,_,s]=>0<=s/\(s=0\/(Q 1 n n/\0<=n/\n<=512/\s<=30*n)) | _=>False) | _=>fun _=>False⟩
def altS (Q:Int->Int->Int->Prop):Alt:=⟨.agg [.i .i64 (some 0), .s [.f] (some 0), .i .i64 (some 0), .i .i64 (some 0), .s [.f] (some 0), .i .i64 (some 0), .i .i64 (some 0), .s [.f] (some 0), .i .i64 (some 0)],fun | [m,n,w]=>(fun | [_,_,_,_,_,_,_,_,s]=>0<=s/\(s=0\/(Q 0 m n/\0<=m/\m<=512/\0<=n/\n<=512/\(w=1->s<=30*m/\s<=30*n))) | _=>False) | _=>fun _=>False⟩
end Go.Proofs.YtgledbghdhjgkaaGreatDoor
