/-
  TopSteps answers true for every input that can be read as data.
-/
import Derived.Test.YtgledbghdhjgkaaGreatDoorZR
import Derived.Test.YtgledbghdhjgkaaGreatDoorZS
import Derived.Test.YtgledbghdhjgkaaGreatDoorZT
import Derived.Test.YtgledbghdhjgkaaGreatDoorZU
import Derived.Test.YtgledbghdhjgkaaGreatDoorZJ
import Derived.Test.YtgledbghdhjgkaaGreatDoorZI
import Derived.Test.YtgledbghdhjgkaaGreatDoorZQ
import Derived.Test.YtgledbghdhjgkaaGreatDoorZE
import Derived.Test.YtgledbghdhjgkaaGreatDoorZK
import Derived.Test.YtgledbghdhjgkaaGreatDoorZL
import Derived.Test.YtgledbghdhjgkaaGreatDoorZM
import Derived.Test.YtgledbghdhjgkaaGreatDoorZN
import Derived.Test.YtgledbghdhjgkaaGreatDoorZO
import Derived.Test.YtgledbghdhjgkaaGreatDoorZP
import Derived.Test.YtgledbghdhjgkaaGreatDoorCards
import Derived.Test.YtgledbghdhjgkaaGreatDoorTie
import Derived.WalkSpells
import Derived.WalkLawsBesides
import Derived.ProofKit
import Derived.OpenShut
import Derived.Deep.DeepHandedRow
import Derived.SevenTiedAt
import Derived.LaidByTextLater
import Derived.LaidMore
import Derived.Lay
import Derived.MakeChecks
import Derived.Lib.LaidTab
import Derived.Lib.SmallJoins
set_option linter.unusedSimpArgs false
set_option linter.unusedVariables false
namespace Go.Proofs.YtgledbghdhjgkaaGreatDoor
open Go Go.AM
abbrev Kept (p:Piece):Prop:=∀w0,MI w0->Wm Tryz.prog w0 p
theorem pk {p:Piece} (ps:List Piece) (hk:Ks Tryz.prog MI ps) (h:p.check Tryz.prog exts (eY oz (pieces ps)) 1000000=true):Kept p:=fun _ hw=>Piece.ok Sb (ZN (oz_ok hw) (SI (hk.all _ hw))) BA mixed h
theorem k0:Kept P0:=pk [] trivial e0
theorem k1:Kept P1:=pk [] trivial e1
theorem k2:Kept P2:=pk [] trivial e2
theorem k3:Kept P3:=pk [] trivial e3
theorem k4:Kept P4:=pk [] trivial e4
theorem k5:Kept P5:=pk [] trivial e5
theorem k6:Kept P6:=pk [] trivial e6
theorem k7:Kept P7:=pk [] trivial e7
theorem k8:Kept P8:=pk [] trivial e8
theorem k9:Kept P9:=pk [] trivial e9
theorem k10:Kept P10:=pk [] trivial e10
theorem k11:Kept P11:=pk [] trivial e11
theorem k12:Kept P12:=pk [P4,P5,P6,P7,P8,P9,P10,P11] ⟨k4,k5,k6,k7,k8,k9,k10,k11,trivial⟩ e12
theorem k13:Kept Wu:=pk [] trivial e13
theorem k14:Kept Sd:=pk [] trivial e14
theorem k15:Kept Wv:=pk [] trivial e15
theorem k16:Kept P16:=pk [Sd,Wv] ⟨k14,k15,trivial⟩ e16
theorem k17:Kept Sg:=pk [] trivial e17
theorem k18:Kept P18:=pk [Sd,Sg] ⟨k14,k17,trivial⟩ e18
theorem k19:Kept Zl:=pk [] trivial e19
theorem k20:Kept P20:=pk [] trivial e20
theorem k21:Kept Ww:=pk [] trivial e21
theorem k22:Kept P22:=pk [Sg,Ww] ⟨k17,k21,trivial⟩ e22
theorem k23:Kept P23:=pk [] trivial e23
theorem k24:Kept P24:=pk [P1,P3,Sd,P16,Sg,P18,Zl,P20,P22,P23] ⟨k1,k3,k14,k16,k17,k18,k19,k20,k22,k23,trivial⟩ e24
theorem k25:Kept Wx:=pk [] trivial e25
theorem k26:Kept P26:=pk [P0,P1,P2,P3,P12,Wu,P24,Wx] ⟨k0,k1,k2,k3,k12,k13,k24,k25,trivial⟩ e26
theorem k27:Kept P27:=pk [P26] ⟨k26,trivial⟩ e27
theorem k28:Kept P28:=pk [] trivial e28
theorem k29:Kept P29:=pk [] trivial e29
theorem k30:Kept P30:=pk [] trivial e30
theorem k31:Kept P31:=pk [] trivial e31
theorem k32:Kept P32:=pk [P6,P31] ⟨k6,k31,trivial⟩ e32
theorem k33:Kept P33:=pk [] trivial e33
theorem k34:Kept P34:=pk [] trivial e34
theorem k35:Kept P35:=pk [] trivial e35
theorem k36:Kept P36:=pk [P4,P5,P30,P32,P33,P34,P35] ⟨k4,k5,k30,k32,k33,k34,k35,trivial⟩ e36
theorem k37:Kept P37:=pk [Wv] ⟨k15,trivial⟩ e37
theorem k38:Kept P38:=pk [Sd] ⟨k14,trivial⟩ e38
theorem k39:Kept P39:=pk [Ww] ⟨k21,trivial⟩ e39
theorem k40:Kept P40:=pk [] trivial e40
theorem k41:Kept P41:=pk [Sg] ⟨k17,trivial⟩ e41
theorem k42:Kept Zm:=pk [] trivial e42
theorem k43:Kept P43:=pk [Zm] ⟨k42,trivial⟩ e43
theorem k44:Kept P44:=pk [P1,Zl,P30,P37,P38,P39,P40,P41,P43] ⟨k1,k19,k30,k37,k38,k39,k40,k41,k43,trivial⟩ e44
theorem k45:Kept P45:=pk [P0,P1,P2,Wu,Wx,P36,P44] ⟨k0,k1,k2,k13,k25,k36,k44,trivial⟩ e45
theorem k46:Kept P46:=pk [P26] ⟨k26,trivial⟩ e46
theorem k47:Kept P47:=pk [] trivial e47
theorem k48:Kept Zn:=pk [] trivial e48
theorem k49:Kept P49:=pk [P6] ⟨k6,trivial⟩ e49
theorem k50:Kept P50:=pk [] trivial e50
theorem k51:Kept P51:=pk [] trivial e51
theorem k52:Kept P52:=pk [P4,P5,P6,P7,P8,P49,P50,P51] ⟨k4,k5,k6,k7,k8,k49,k50,k51,trivial⟩ e52
theorem k53:Kept Zo:=pk [] trivial e53
theorem k54:Kept P54:=pk [] trivial e54
theorem k55:Kept P55:=pk [] trivial e55
theorem k56:Kept P56:=pk [] trivial e56
theorem k57:Kept P57:=pk [] trivial e57
theorem k58:Kept P58:=pk [P31,P54,P55,P56,P57] ⟨k31,k54,k55,k56,k57,trivial⟩ e58
theorem k59:Kept P59:=pk [] trivial e59
theorem k60:Kept P60:=pk [] trivial e60
theorem k61:Kept P61:=pk [] trivial e61
theorem k62:Kept P62:=pk [] trivial e62
theorem k63:Kept P63:=pk [P59,P60] ⟨k59,k60,trivial⟩ e63
theorem k64:Kept P64:=pk [] trivial e64
theorem k65:Kept P65:=pk [] trivial e65
theorem k66:Kept P66:=pk [] trivial e66
theorem k67:Kept P67:=pk [P61,P65] ⟨k61,k65,trivial⟩ e67
theorem k68:Kept P68:=pk [] trivial e68
theorem k69:Kept P69:=pk [Zm] ⟨k42,trivial⟩ e69
theorem k70:Kept P70:=pk [P1,Zn,Zo,P59,P60,P61,P62,P63,P64,P65,P66,P67,P68,P69] ⟨k1,k48,k53,k59,k60,k61,k62,k63,k64,k65,k66,k67,k68,k69,trivial⟩ e70
theorem k71:Kept P71:=pk [Wv] ⟨k15,trivial⟩ e71
theorem k72:Kept P72:=pk [] trivial e72
theorem k73:Kept P73:=pk [Sg,Ww] ⟨k17,k21,trivial⟩ e73
theorem k74:Kept P74:=pk [Ww] ⟨k21,trivial⟩ e74
theorem k75:Kept P75:=pk [Sd,Wv] ⟨k14,k15,trivial⟩ e75
theorem k76:Kept P76:=pk [Zm] ⟨k42,trivial⟩ e76
theorem k77:Kept P77:=pk [P1,Zn,Zo,P71,P72,P73,P74,P75,P76] ⟨k1,k48,k53,k71,k72,k73,k74,k75,k76,trivial⟩ e77
theorem k78:Kept P78:=pk [P0,P1,P2,Wu,Wx,Zn,P52,Zo,P58,P70,P77] ⟨k0,k1,k2,k13,k25,k48,k52,k53,k58,k70,k77,trivial⟩ e78
theorem k79:Kept P79:=pk [] trivial e79
theorem k80:Kept P80:=pk [] trivial e80
theorem k81:Kept P81:=pk [P4,P5,P6,P7,P8,P9,P10,P11] ⟨k4,k5,k6,k7,k8,k9,k10,k11,trivial⟩ e81
theorem k82:Kept P82:=pk [] trivial e82
theorem k83:Kept P83:=pk [P1,Sd,P16,Sg,P18,Zl,P20,P22,P80,P82] ⟨k1,k14,k16,k17,k18,k19,k20,k22,k80,k82,trivial⟩ e83
theorem k84:Kept P84:=pk [P0,P1,P2,Wu,Wx,P79,P80,P81,P83] ⟨k0,k1,k2,k13,k25,k79,k80,k81,k83,trivial⟩ e84
theorem k85:Kept P85:=pk [P27,P28,P29,P45,P46,P47,P78,P84] ⟨k27,k28,k29,k45,k46,k47,k78,k84,trivial⟩ e85
theorem Q0 {w0:World} (h:MI w0):Goes Tryz.prog 6/\jC Tryz.prog w0 6 [] (fun _=>none) 0 fun v _ _=>v= .b (some true):=by
 have:=k85 w0 h
 refine⟨this.goes,?_⟩
 have hm:(P85:Piece).mem.get=fun _=>none:=by
  funext d
  cases hd:(P85:Piece).mem.get d with
  | none=>rfl
  | some o=>exact absurd (Piece.zJ hd).1 (Nat.not_lt_zero d)
 have hc:=this.call
 rw [hm] at hc
 exact hc.mono fun v g N h=>h.1
end Go.Proofs.YtgledbghdhjgkaaGreatDoor
namespace Go.TM
open Go
section
variable {P:Program} {w0:World}
theorem aJ.quiet {σ:TE} {g:G} {w w':World} (r:TW P w0 σ g w) (h:RowKit.Below w.heap.size w w'):aJ P w0 σ g w σ g w':=
 ⟨.refl _,h.size,fun k hk h1 h2=>⟨h.block k hk,h1,h2⟩,⟨fun k B e=>by
  obtain⟨o,h1,h2⟩:=r.blk k B e
  exact⟨o,(h.block k (r.lt e)).trans h1,h2⟩,fun k o e=>by
  obtain⟨h0,O,h1,h2⟩:=r.obj k o e
  exact⟨h0,O,(h.block k (r.Ya e)).trans h1,h2⟩,r.wt,r.wg,r.below.trans (h.mono r.below.size)⟩⟩
theorem aJ.typed {σ σ':TE} {g:G} {w w':World} (r:TW P w0 σ g w) (p:aJ P w0 σ g w σ' g w') (a:Nat) (B:TB) (ha:w.heap.size<=a) (hσ:σ' a=none) {o:Obj} (ho:w'.heap[a]?=some o) (hB:RelB P (σ'.put a B) B o):aJ P w0 σ g w (σ'.put a B) g w':=by
 have hg:g a=none:=by
  cases h:g a with
  | none=>rfl
  | some x=>have:=r.Ya h;omega
 refine⟨p.ext.trans (Ext.put hσ),p.size,fun k hk h1 h2=>?_,p.rel.type a B (Nat.le_trans r.below.size ha) hσ hg ho hB⟩
 obtain⟨q1,q2,q3⟩:=p.frame k hk h1 h2
 refine⟨q1,?_,q3⟩
 unfold TE.put
 rw [if_neg (by omega)]
 exact q2
theorem TE.qV (σ:TE) (a:Nat) (B:TB):σ.put a B a=some B:=by simp [TE.put]
theorem TE.mZ {σ:TE} {a b:Nat} {B:TB} (h:b≠a):σ.put a B b=σ b:=by simp [TE.put,h]
theorem TW.BB {σ:TE} {g:G} {w:World} (r:TW P w0 σ g w) {a:Nat} (h:w.heap.size<=a):σ a=none:=by
 cases e:σ a with
 | none=>rfl
 | some B=>have:=r.lt e;omega
end
end Go.TM
namespace Go.Proofs.YtgledbghdhjgkaaGreatDoor
open Go Go.TM Go.RowKit Go.Ej
theorem Si {b0 i j:Nat} {w:World} {k v v':Value} (h:MP b0 w i k v) (h':MP b0 w j k v'):i=j:=by
 unfold MP at h h'
 split at h<;>split at h'<;>first | rfl | exact h.elim | exact h'.elim | (have e:=h.1.symm.trans h'.1;simp [iJ] at e)
theorem wH.uniq {b0:Nat} {w:World}:∀{L:List Nat} {E:List MapEntry},wH b0 w L E->L.Nodup->∀e∈E,∀e'∈E,e.key=e'.key->e=e'
 | [],[],_,_,e,he,_,_,_=>by cases he
 | i::L,x::E,h,hn,e,he,e',he',hk=>by
  obtain⟨n1,n2⟩:=List.nodup_cons.1 hn
  rcases List.mem_cons.1 he with h1 | h1<;>rcases List.mem_cons.1 he' with h2 | h2
  ·rw [h1,h2]
  ·obtain⟨j,hj,hE⟩:=h.2.mem e' h2
   subst h1
   have:=Si h.1 (hk▸hE)
   exact absurd (this▸hj) n1
  ·obtain⟨j,hj,hE⟩:=h.2.mem e h1
   subst h2
   have:=Si h.1 (hk▸hE)
   exact absurd (this▸hj) n1
  ·exact h.2.uniq n2 e h1 e' h2 hk
 | [],_::_,h,_,_,_,_,_,_=>h.elim
 | _::_,[],h,_,_,_,_,_,_=>h.elim
theorem wH.get {b0:Nat} {w:World}:∀{L:List Nat} {E:List MapEntry},wH b0 w L E->∀i∈L,∃e∈E,MP b0 w i e.key e.val
 | i::L,x::E,h,j,hj=>by
  rcases List.mem_cons.1 hj with rfl | hj
  ·exact⟨x,by simp,h.1⟩
  ·obtain⟨e,h1,h2⟩:=h.2.get j hj
   exact⟨e,by simp [h1],h2⟩
 | [],_,_,_,hj=>by cases hj
 | _::_,[],h,_,_=>h.elim
theorem Sj {σ:TE} {f:FuncId} {e:TypeId}:RelB Tryz.prog σ (.row [.fn f [] []] 1) (.cells #[.func (.func f) #[] #[]] e):=
 ⟨_,e,rfl,rfl,by simp [Value.oneCell'],fun i a hi ha=>by
  have:i=0:=by simp at hi;omega
  subst this
  simp at ha
  subst ha
  exact⟨_,rfl,by simp [TM.af,TM.ai]⟩⟩
theorem Pj {σ:TE} {f B:Nat} (h:σ B=some (.row [.fn f [] []] 1)):TM.af σ (.fn 50 [] [.p [.fn f [] []]]) (.func (.func 50) #[] #[.pointer (some ⟨B,0,none⟩)]):=by
 simp only [TM.af]
 refine⟨_,_,rfl,by simp [TM.ai],?_⟩
 simp only [TM.ai]
 refine⟨_,_,rfl,?_,rfl⟩
 simp only [TM.af]
 exact⟨B,0,[.fn f [] []],1,0,0,[],rfl,h,rfl,by simp,by simp,rfl⟩
theorem ML (w0:World):aD Tryz.prog w0 20 Ee:=by
 refine⟨aO _ Tryz.f20 _ (by kernel_rfl) rfl,fun xs hl hp=>?_,fun xs hl hp g=>?_⟩
 ·obtain rfl:xs=[]:=List.length_eq_zero_iff.1 hl
  exact⟨_,_,List.mem_cons_self ..,[],rfl,trivial,rfl⟩
 ·obtain rfl:xs=[]:=List.length_eq_zero_iff.1 hl
  refine av.of fun σ w vs hv r=>?_
  have hvs:vs=#[]:=by
   have hv':TM.ai σ [] vs.toList:=hv
   simp only [TM.ai] at hv'
   exact Array.toList_inj.1 hv'
  subst hvs
  refine CallsIn.mono (callsIn_wide.2 (Pg w)) ?_
  rintro e w' ⟨M,E,c,L,rfl,hb,hM,hE,hl,hn,hm⟩
  obtain⟨e8,m8,q8⟩:=hl.get 8 ((hm 8).2 (by decide))
  obtain⟨e12,m12,q12⟩:=hl.get 12 ((hm 12).2 (by decide))
  obtain⟨k8,B1,t1,v8,b1,o1⟩:=q8
  obtain⟨k12,B2,t2,v12,b2,o2⟩:=q12
  have h12:B2≠B1:=fun e=>by
   subst e
   rw [o1] at o2
   simp at o2
  have hM1:M≠B1:=fun e=>by subst e;rw [hE] at o1;cases o1
  have hM2:M≠B2:=fun e=>by subst e;rw [hE] at o2;cases o2
  have p0:=aJ.quiet r hb
  have p1:=aJ.typed r p0 B1 (.row [.fn 52 [] []] 1) b1 (r.BB b1) o1 Sj
  have p2:=aJ.typed r p1 B2 (.row [.fn 53 [] []] 1) b2 (by rw [TE.mZ h12];exact r.BB b2) o2 Sj
  have hkeys:∀e∈E.toList,∃x y:Int,e.key=iJ x y:=fun e he=>by
   obtain⟨i,_,hi⟩:=hl.mem e he
   unfold MP at hi
   split at hi<;>first | exact⟨_,_,hi.1⟩ | exact hi.elim
  have p3:=aJ.typed r p2 M (.tab 63 [.agg #[.int .i64 1, .int .i64 0], .agg #[.int .i64 2, .int .i64 0], .agg #[.int .i64 1, .int .i64 1], .agg #[.int .i64 2, .int .i64 1]] [.fn 52 [] [], .fn 53 [] [], .fn 50 [] [.p [.fn 52 [] []]], .fn 50 [] [.p [.fn 53 [] []]]]) hM
   (by rw [TE.mZ hM2,TE.mZ hM1];exact r.BB hM) hE (by
    refine⟨E,c,rfl,fun e he=>?_,?_⟩
    ·obtain⟨x,y,hxy⟩:=hkeys e he
     rw [hxy]
     exact .inr ⟨.i64,3,[x,y],rfl,by kernel_rfl,by kernel_rfl,by kernel_rfl⟩
    ·obtain⟨e2,m2,q2⟩:=hl.get 2 ((hm 2).2 (by decide))
     obtain⟨e4,m4,q4⟩:=hl.get 4 ((hm 4).2 (by decide))
     obtain⟨k2,v2⟩:=q2
     obtain⟨k4,v4⟩:=q4
     have hu:=fun e he e' he'=>hl.uniq hn e he e' he'
     refine⟨⟨e2,m2,k2⟩,fun e he hk=>?_,⟨e4,m4,k4⟩,fun e he hk=>?_,⟨e8,m8,k8⟩,fun e he hk=>?_,⟨e12,m12,k12⟩,fun e he hk=>?_,trivial⟩
     ·rw [hu e he e2 m2 (hk.trans k2.symm),v2];simp [TM.af,TM.ai]
     ·rw [hu e he e4 m4 (hk.trans k4.symm),v4];simp [TM.af,TM.ai]
     ·rw [hu e he e8 m8 (hk.trans k8.symm),v8]
      exact Pj (by rw [TE.mZ hM1.symm,TE.mZ h12.symm,TE.qV])
     ·rw [hu e he e12 m12 (hk.trans k12.symm),v12]
      exact Pj (by rw [TE.mZ hM2.symm,TE.qV]))
  refine⟨_,_,_,_,rfl,⟨⟨_,List.mem_cons_self ..,[],rfl,trivial,rfl⟩,rfl⟩,p3,?_⟩
  show TM.af _ (.tab 63 _ _) _
  simp only [TM.af]
  exact⟨M,rfl,TE.qV _ _ _⟩
theorem JA (w0:World) (hT:MI w0):aD Tryz.prog w0 199 Ak:=by
 refine⟨aO _ Tryz.f199 _ (by kernel_rfl) rfl,fun xs hl hp=>?_,fun xs hl hp g=>?_⟩
 ·obtain⟨n,rfl⟩:=Xv hl
  exact⟨_,_,List.mem_cons_self ..,[],rfl,trivial,rfl⟩
 ·obtain⟨n,rfl⟩:=Xv hl
  refine av.of fun σ w vs hv r=>?_
  have hv':TM.ai σ [.s [.i .u64 none] (some n)] vs.toList:=hv
  simp only [TM.ai,TM.af] at hv'
  obtain⟨v,q,hq,⟨A,k,C,rfl,hk,⟨hkC,hk2,_⟩,El,hA⟩,rfl⟩:=hv'
  have hvs:vs=#[.slice A k C]:=Array.toList_inj.1 (by simpa using hq)
  subst hvs
  have hT':MI w:=hT.below r.below
  let f:Nat->Nat:=fun i=>match A with
   | none=>0
   | some a=>match w.cell? (a.add i) with
    | some (.int _ x)=>x.toNat
    | _=>0
  have hf:∀i,i < k->∃b off,A=some ⟨b,off,none⟩/\w.cell? ⟨b,off+i,none⟩=some (.int .u64 (f i:Int))/\f i < 18446744073709551616:=fun i hi=>by
   cases A with
   | none=>have:=El rfl;omega
   | some a=>
    obtain⟨rr,jj,m,rfl,hσ,hm⟩:=hA a rfl
    obtain⟨o,ho,D,e,rfl,hs,h1,hr⟩:=r.blk rr _ hσ
    have hlt:jj+i < D.size:=by simp at hs;omega
    obtain⟨v,hv,TN⟩:=hr (jj+i) (.i .u64 none) hlt (by simp [Nat.mod_one])
    simp only [TM.af] at TN
    obtain⟨x,rfl,hx⟩:=TN
    have hx2:0<=x/\x < 18446744073709551616:=by
     have:0<=x/\x<=18446744073709551615:=by simpa [IntKind.has,IntKind.min,IntKind.max,IntKind.signed,IntKind.bits] using hx
     omega
    have hc:w.cell? ⟨rr,jj+i,none⟩=some (.int .u64 x):=by
     simp [World.cell?,ho,hv]
    refine⟨rr,jj*1,rfl,?_,?_⟩
    ·show w.cell? ⟨rr,jj*1+i,none⟩=_
     rw [Nat.mul_one,hc]
     have:f i=x.toNat:=by
      show(match w.cell? ((⟨rr,jj*1,none⟩:Addr).add i) with | some (.int _ x)=>x.toNat | _=>0)=_
      rw [AM.addr_add,Nat.mul_one,hc]
     rw [this]
     congr 2
     omega
    ·have:f i=x.toNat:=by
      show(match w.cell? ((⟨rr,jj*1,none⟩:Addr).add i) with | some (.int _ x)=>x.toNat | _=>0)=_
      rw [AM.addr_add,Nat.mul_one,hc]
     rw [this];omega
  refine CallsIn.mono (callsIn_wide.2 (QX A k C f w hT' hkC hk2 hf)) ?_
  rintro e w' ⟨⟨x,y,rfl,hx1,hx2,hy1,hy2⟩,hb⟩
  refine⟨_,_,_,σ,rfl,⟨⟨_,List.mem_cons_self ..,[],rfl,trivial,rfl⟩,rfl⟩,aJ.quiet r hb,?_⟩
  show TM.af σ (.aF [.i .i64 none, .i .i64 none]) _
  simp only [TM.af,TM.ai]
  exact⟨_,rfl,_,_,rfl,⟨x,rfl,by simp [IntKind.has,IntKind.min,IntKind.max,IntKind.signed,IntKind.bits];omega⟩,_,_,rfl,⟨y,rfl,by simp [IntKind.has,IntKind.min,IntKind.max,IntKind.signed,IntKind.bits];omega⟩,rfl⟩
noncomputable def PW:AM.Piece:=⟨32,[],[], .m (some 0),[],[(0,some (.map [(.i .i64 (some 1), .fn (.func 75) [] []),(.i .i64 (some 2), .fn (.func 76) [] []),(.i .i64 (some 3), .fn (.func 77) [] [])]))]⟩
theorem V9:PW.check Tryz.prog exts (fun _ _ _=>none) 100000=true:=by kernel_rfl
theorem pw_ok (w0:World):AM.Wm Tryz.prog w0 PW:=AM.Piece.ok Sb (fun _ _ _ _ _ h=>by cases h) BA mixed V9
theorem BC (w0:World):aD Tryz.prog w0 32 qw:=by
 refine⟨aO _ Tryz.f32 _ (by kernel_rfl) rfl,fun xs hl hp=>?_,fun xs hl hp g=>?_⟩
 ·obtain rfl:xs=[]:=List.length_eq_zero_iff.1 hl
  exact⟨_,_,List.mem_cons_self ..,[],rfl,trivial,rfl⟩
 ·obtain rfl:xs=[]:=List.length_eq_zero_iff.1 hl
  refine av.of fun σ w vs hv r=>?_
  have hvs:vs=#[]:=by
   have hv':TM.ai σ [] vs.toList:=hv
   simp only [TM.ai] at hv'
   exact Array.toList_inj.1 hv'
  subst hvs
  have hno:∀d o,¬PW.mem.get d=some o:=fun d o h=>Nat.not_lt_zero d (AM.Piece.zJ h).1
  refine CallsIn.mono ((pw_ok w0).call ⟨id,fun _=>0⟩ w #[] (by simp [PW,AM.ai]) ⟨fun d o h=>absurd h (hno d o),fun d e o o' h=>absurd h (hno d o)⟩ ⟨r.below.os,r.below.tape,r.below.output,r.below.size,r.below.block,fun d o h=>absurd h (hno d o)⟩) ?_
  rintro e w' ⟨v,q,g1,N1,σ1,rfl,⟨rfl,_,ht⟩,po,TN⟩
  have h0:g1 0=_:=ht 0 _ (.inl (by show(0,some _)∈PW.news;exact List.mem_cons_self ..))
  obtain⟨_,O,hO,E,c,rfl,hE⟩:=po.rel.ob 0 _ h0
  have hb:Below w.heap.size w w':=⟨po.base.os.trans r.below.os.symm,po.base.tape.trans r.below.tape.symm,po.base.output.trans r.below.output.symm,po.keep.size,fun k hk=>(po.keep.block k hk fun d o h=>absurd h (hno d o)).1⟩
  obtain⟨M,hM⟩:∃M,σ1.at_ 0=M:=⟨_,rfl⟩
  rw [hM] at hO
  have hMw:w.heap.size<=M:=Nat.le_of_not_lt fun hlt=>(po.keep.block M hlt fun d o h=>absurd h (hno d o)).2 0 _ h0 rfl hM
  have hv:v= .map (some M):=by
   have:AM.af σ1 N1 (.m (some 0)) v:=TN
   simp only [AM.af] at this
   rw [this.2,hM]
  subst hv
  simp only [AM.kg,AM.af,AM.ai] at hE
  obtain⟨e1,_,hE,k1,v1,e2,_,rfl,k2,v2,e3,_,rfl,k3,v3,rfl⟩:=hE
  have p3:=aJ.typed r (aJ.quiet r hb) M (.tab 44 [.int .i64 1, .int .i64 2, .int .i64 3] [.fn 75 [] [], .fn 76 [] [], .fn 77 [] []]) hMw (r.BB hMw) hO (by
   have fn:∀{σ':TE} {f:Nat} {v:Value},(AM.IV N1 (.func f)/\∃vs us,v= .func (σ1.fn (.func f)) vs us/\vs.toList=[]/\us.toList=[])->TM.af σ' (.fn f [] []) v:=by
    rintro σ' f v ⟨_,vs,us,rfl,h1,h2⟩
    simp only [TM.af]
    exact⟨vs,us,rfl,by simpa [TM.ai] using h1,by simpa [TM.ai] using h2⟩
   refine⟨E,c,rfl,fun e he=>?_,?_⟩
   ·rw [hE] at he
    simp only [List.mem_cons,List.not_mem_nil,or_false] at he
    rcases he with rfl | rfl | rfl
    ·exact .inl ⟨_,_,k1,by kernel_rfl⟩
    ·exact .inl ⟨_,_,k2,by kernel_rfl⟩
    ·exact .inl ⟨_,_,k3,by kernel_rfl⟩
   ·rw [hE]
    refine⟨⟨e1,by simp,k1⟩,fun e he hk=>?_,⟨e2,by simp,k2⟩,fun e he hk=>?_,⟨e3,by simp,k3⟩,fun e he hk=>?_,trivial⟩<;>
     (simp only [List.mem_cons,List.not_mem_nil,or_false] at he
      rcases he with rfl | rfl | rfl<;>first | exact fn v1 | exact fn v2 | exact fn v3 | (exfalso;rw [hk] at k1;simp at k1;done) | (exfalso;rw [hk] at k2;simp at k2;done) | (exfalso;rw [hk] at k3;simp at k3;done)))
  refine⟨_,_,_,_,rfl,⟨⟨_,List.mem_cons_self ..,[],rfl,trivial,rfl⟩,rfl⟩,p3,?_⟩
  show TM.af _ (.tab 44 _ _) _
  simp only [TM.af]
  exact⟨M,rfl,TE.qV _ _ _⟩
end Go.Proofs.YtgledbghdhjgkaaGreatDoor
namespace Go.Proofs.YtgledbghdhjgkaaGreatDoor
open Go Go.TM
set_option maxRecDepth 100000
def XR (w0:World) (f:Nat):List (List Nat×aab)->Prop
 | []=>True
 | (_,F)::l=>(ag w0 F.rank->aD Tryz.prog w0 f F)/\XR w0 f l
def Wd (w0:World):List (Nat×List (List Nat×aab))->Prop
 | []=>True
 | (f,l)::r=>XR w0 f l/\Wd w0 r
theorem XR.get {w0:World} {f:Nat}:∀{l:List (List Nat×aab)},XR w0 f l->∀F∈l.map (·.2),ag w0 F.rank->aD Tryz.prog w0 f F
 | [],_,F,h=>by cases h
 | (_,G)::l,h,F,hF=>by
  rcases List.mem_cons.1 hF with rfl | hF
  ·exact h.1
  ·exact h.2.get F hF
theorem Wd.get {w0:World}:∀{r:List (Nat×List (List Nat×aab))},Wd w0 r->∀p∈r,∀F∈p.2.map (·.2),ag w0 F.rank->aD Tryz.prog w0 p.1 F
 | [],_,p,h=>by cases h
 | (f,l)::r,h,p,hp=>by
  rcases List.mem_cons.1 hp with rfl | hp
  ·exact h.1.get
  ·exact h.2.get p hp
theorem ag.all {w0:World} (h:Wd w0 table):∀r,ag w0 r
 | 0=>fun f l F _ hr=>absurd hr (Nat.not_lt_zero _)
 | r+1=>fun f l F ht hr=>by
  have ih:=ag.all h r
  have hF:ag w0 F.rank:=fun f' l' F' ht' hr'=>ih f' l' F' ht' (by omega)
  obtain⟨p,hp,rfl,hm⟩:=Kz ht
  exact h.get p hp F hm hF
theorem az {w0:World} {r:Nat} (h:ag w0 r) (hr:173<=r):au Tryz.prog w0 its:=its_ok fun f l F ht hF=>h f l F ht (by omega)
theorem all_ok (w0:World) (hT:MI w0):Wd w0 table:=
 ⟨⟨fun h=>Jt w0 (az h (by decide)) h,trivial⟩,
 ⟨fun h=>IB w0 (az h (by decide)) h,trivial⟩,
 ⟨fun _=>ML w0,trivial⟩,
 ⟨fun h=>Mo w0 (az h (by decide)) h,trivial⟩,
 ⟨Eu w0,trivial⟩,
 ⟨Mg w0,trivial⟩,
 ⟨fun _=>BC w0,trivial⟩,
 ⟨wu w0,trivial⟩,
 ⟨wy w0,trivial⟩,
 ⟨Mh w0,trivial⟩,
 ⟨fun h=>Mq w0 (az h (by decide)) h,trivial⟩,
 ⟨EE w0,trivial⟩,
 ⟨ED w0,trivial⟩,
 ⟨fun h=>CK w0 (az h (by decide)) h,fun h=>Be w0 (az h (by decide)) h,trivial⟩,
 ⟨Ey w0,trivial⟩,
 ⟨fun h=>EK w0 (az h (by decide)) h,trivial⟩,
 ⟨fun h=>Bd w0 (az h (by decide)) h,trivial⟩,
 ⟨H6 w0,trivial⟩,
 ⟨Me w0,Jj w0,Ig w0,trivial⟩,
 ⟨O0 w0,trivial⟩,
 ⟨Ez w0,trivial⟩,
 ⟨Ii w0,trivial⟩,
 ⟨Jk w0,trivial⟩,
 ⟨H9 w0,trivial⟩,
 ⟨Mf w0,Jn w0,trivial⟩,
 ⟨Ik w0,trivial⟩,
 ⟨Jm w0,trivial⟩,
 ⟨Ij w0,trivial⟩,
 ⟨Il w0,trivial⟩,
 ⟨Im w0,trivial⟩,
 ⟨A7 w0,trivial⟩,
 ⟨Io w0,trivial⟩,
 ⟨Bb w0,trivial⟩,
 ⟨HZ w0,trivial⟩,
 ⟨yM w0,trivial⟩,
 ⟨Js w0,trivial⟩,
 ⟨iW w0,trivial⟩,
 ⟨Ip w0,trivial⟩,
 ⟨Iq w0,trivial⟩,
 ⟨iI w0,trivial⟩,
 ⟨Cv w0,trivial⟩,
 ⟨Cu w0,trivial⟩,
 ⟨AX w0,trivial⟩,
 ⟨EC w0,trivial⟩,
 ⟨Iu w0,trivial⟩,
 ⟨EB w0,trivial⟩,
 ⟨fun h=>Bc w0 (az h (by decide)) h,trivial⟩,
 ⟨fun h=>Mv w0 (az h (by decide)) h,trivial⟩,
 ⟨fun h=>Mt w0 (az h (by decide)) h,trivial⟩,
 ⟨Mj w0,trivial⟩,
 ⟨fun h=>CS w0 (az h (by decide)) h,trivial⟩,
 ⟨H5 w0,trivial⟩,
 ⟨fF w0,fC w0,fq w0,trivial⟩,
 ⟨Ie w0,trivial⟩,
 ⟨gY w0,gM w0,gF w0,gq w0,fP w0,fK w0,trivial⟩,
 ⟨AU w0,trivial⟩,
 ⟨Hy w0,trivial⟩,
 ⟨Hz w0,trivial⟩,
 ⟨L9 w0,trivial⟩,
 ⟨Ic w0,trivial⟩,
 ⟨Cx w0,trivial⟩,
 ⟨Ih w0,trivial⟩,
 ⟨Jf w0,trivial⟩,
 ⟨QD w0,trivial⟩,
 ⟨Cy w0,AZ w0,trivial⟩,
 ⟨EA w0,trivial⟩,
 ⟨Mc w0,trivial⟩,
 ⟨Jl w0,trivial⟩,
 ⟨L8 w0,trivial⟩,
 ⟨Ma w0,trivial⟩,
 ⟨wh w0,trivial⟩,
 ⟨Mi w0,trivial⟩,
 ⟨uO w0,trivial⟩,
 ⟨jI w0,trivial⟩,
 ⟨CB w0,trivial⟩,
 ⟨uT w0,trivial⟩,
 ⟨EJ w0,CJ w0,trivial⟩,
 ⟨uU w0,trivial⟩,
 ⟨uV w0,trivial⟩,
 ⟨Cw w0,trivial⟩,
 ⟨uP w0,trivial⟩,
 ⟨jc w0,trivial⟩,
 ⟨Et w0,trivial⟩,
 ⟨Jo w0,trivial⟩,
 ⟨Cz w0,trivial⟩,
 ⟨Ir w0,trivial⟩,
 ⟨fun h=>O5 w0 (az h (by decide)) h,trivial⟩,
 ⟨vW w0,fun h=>u6 w0 (az h (by decide)) h,trivial⟩,
 ⟨fun h=>qR w0 (az h (by decide)) h,trivial⟩,
 ⟨fun h=>uZ w0 (az h (by decide)) h,fun h=>sj w0 (az h (by decide)) h,trivial⟩,
 ⟨fun h=>wD w0 (az h (by decide)) h,trivial⟩,
 ⟨A8 w0,trivial⟩,
 ⟨fun h=>EL w0 (az h (by decide)) h,trivial⟩,
 ⟨fun h=>yV w0 (az h (by decide)) h,trivial⟩,
 ⟨fun h=>EM w0 (az h (by decide)) h,trivial⟩,
 ⟨Iy w0,trivial⟩,
 ⟨QG w0,trivial⟩,
 ⟨QF w0,trivial⟩,
 ⟨Jd w0,trivial⟩,
 ⟨LQ w0,trivial⟩,
 ⟨yJ w0,trivial⟩,
 ⟨yK w0,trivial⟩,
 ⟨Iz w0,EI w0,CG w0,trivial⟩,
 ⟨Iw w0,trivial⟩,
 ⟨yL w0,trivial⟩,
 ⟨Jq w0,trivial⟩,
 ⟨fun h=>y7 w0 (az h (by decide)) h,trivial⟩,
 ⟨AY w0,trivial⟩,
 ⟨fun h=>Ms w0 (az h (by decide)) h,trivial⟩,
 ⟨fun h=>CR w0 (az h (by decide)) h,trivial⟩,
 ⟨HV w0,trivial⟩,
 ⟨fun h=>Bl w0 (az h (by decide)) h,trivial⟩,
 ⟨fun h=>ve w0 (az h (by decide)) h,trivial⟩,
 ⟨fun h=>Br w0 (az h (by decide)) h,trivial⟩,
 ⟨fun h=>ER w0 (az h (by decide)) h,trivial⟩,
 ⟨fun h=>ES w0 (az h (by decide)) h,trivial⟩,
 ⟨yE w0,trivial⟩,
 ⟨AR w0,trivial⟩,
 ⟨LU w0,trivial⟩,
 ⟨gu w0,fQ w0,fM w0,trivial⟩,
 ⟨iP w0,iH w0,iC w0,gZ w0,gN w0,gG w0,trivial⟩,
 ⟨Jh w0,trivial⟩,
 ⟨OT w0,trivial⟩,
 ⟨Jg w0,trivial⟩,
 ⟨OZ w0,trivial⟩,
 ⟨LY w0,trivial⟩,
 ⟨fun _=>JA w0 hT,trivial⟩,
 ⟨OX w0,trivial⟩,
 ⟨LV w0,trivial⟩,
 ⟨L6 w0,trivial⟩,
 ⟨Ia w0,trivial⟩,
 ⟨OL w0,trivial⟩,
 ⟨Ji w0,trivial⟩,
 ⟨EF w0,trivial⟩,
 ⟨QE w0,trivial⟩,
 ⟨Jc w0,trivial⟩,
 ⟨CF w0,trivial⟩,
 ⟨yH w0,trivial⟩,
 ⟨Jp w0,trivial⟩,
 ⟨Ep w0,trivial⟩,
 ⟨Ev w0,trivial⟩,
 ⟨Ew w0,CE w0,trivial⟩,
 ⟨yF w0,trivial⟩,
 ⟨si w0,trivial⟩,
 ⟨fun h=>Mr w0 (az h (by decide)) h,trivial⟩,
 ⟨fun h=>yX w0 (az h (by decide)) h,trivial⟩,
 ⟨fun h=>yS w0 (az h (by decide)) h,trivial⟩,
 ⟨wm w0,trivial⟩,
 ⟨fun h=>IC w0 (az h (by decide)) h,trivial⟩,
 ⟨fun h=>Bn w0 (az h (by decide)) h,trivial⟩,
 ⟨Es w0,trivial⟩,
 ⟨uS w0,trivial⟩,
 ⟨Tq w0,trivial⟩,
 ⟨HY w0,trivial⟩,
 ⟨EH w0,trivial⟩,
 ⟨EG w0,trivial⟩,
 ⟨vX w0,trivial⟩,
 ⟨fun h=>yR w0 (az h (by decide)) h,trivial⟩,
 ⟨fun h=>yO w0 (az h (by decide)) h,trivial⟩,
 ⟨fun h=>yQ w0 (az h (by decide)) h,trivial⟩,
 ⟨fun h=>wF w0 (az h (by decide)) h,trivial⟩,
 ⟨fun h=>IG w0 (az h (by decide)) h,trivial⟩,
 ⟨fun h=>EP w0 (az h (by decide)) h,trivial⟩,
 ⟨Jb w0,trivial⟩,
 ⟨Bg w0,trivial⟩,
 ⟨fun h=>Bh w0 (az h (by decide)) h,trivial⟩,
 ⟨fun h=>Bj w0 (az h (by decide)) h,trivial⟩,
 ⟨fun h=>Bi w0 (az h (by decide)) h,trivial⟩,
 ⟨fun h=>CP w0 (az h (by decide)) h,trivial⟩,
 ⟨fun h=>Bt w0 (az h (by decide)) h,trivial⟩,
 ⟨fun h=>yP w0 (az h (by decide)) h,trivial⟩,
 ⟨fun h=>CQ w0 (az h (by decide)) h,trivial⟩,
 ⟨fun h=>yU w0 (az h (by decide)) h,trivial⟩,
 ⟨LZ w0,trivial⟩,
 ⟨LW w0,trivial⟩,
 ⟨OQ w0,trivial⟩,
 ⟨LX w0,trivial⟩,
 ⟨H8 w0,trivial⟩,
 ⟨OY w0,trivial⟩,
 ⟨jX w0,trivial⟩,
 ⟨OW w0,trivial⟩,
 ⟨Ib w0,trivial⟩,
 ⟨OM w0,trivial⟩,
 ⟨OP w0,trivial⟩,
 ⟨vZ w0,trivial⟩,
 ⟨OJ w0,trivial⟩,
 ⟨Er w0,trivial⟩,
 ⟨A9 w0,trivial⟩,
 ⟨fun h=>Ju w0 (az h (by decide)) h,trivial⟩,
 ⟨fun h=>uY w0 (az h (by decide)) h,trivial⟩,
 ⟨wB w0,trivial⟩,
 ⟨O3 w0,trivial⟩,
 ⟨Bf w0,trivial⟩,
 ⟨fun h=>EO w0 (az h (by decide)) h,trivial⟩,
 ⟨CL w0,trivial⟩,
 ⟨fun h=>uX w0 (az h (by decide)) h,trivial⟩,
 ⟨fun h=>wC w0 (az h (by decide)) h,trivial⟩,
 ⟨fun h=>CO w0 (az h (by decide)) h,fun h=>Bq w0 (az h (by decide)) h,fun h=>y5 w0 (az h (by decide)) h,trivial⟩,
 ⟨fun h=>yZ w0 (az h (by decide)) h,trivial⟩,
 ⟨fun h=>u7 w0 (az h (by decide)) h,trivial⟩,
 ⟨fun h=>yT w0 (az h (by decide)) h,trivial⟩,
 ⟨fun h=>yY w0 (az h (by decide)) h,trivial⟩,
 ⟨fun h=>wE w0 (az h (by decide)) h,trivial⟩,
 ⟨Ex w0,trivial⟩,
 ⟨vY w0,trivial⟩,
 ⟨H7 w0,trivial⟩,
 ⟨Je w0,trivial⟩,
 ⟨OO w0,trivial⟩,
 ⟨OV w0,trivial⟩,
 ⟨uW w0,trivial⟩,
 ⟨fun h=>Bp w0 (az h (by decide)) h,trivial⟩,
 ⟨fun h=>EN w0 (az h (by decide)) h,trivial⟩,
 ⟨fun h=>Bo w0 (az h (by decide)) h,trivial⟩,
 ⟨OU w0,trivial⟩,
 ⟨fun h=>Jw w0 (az h (by decide)) h,fun h=>IE w0 (az h (by decide)) h,trivial⟩,
 ⟨fun h=>Jv w0 (az h (by decide)) h,trivial⟩,trivial⟩
theorem TG (w0:World) (hT:MI w0) (r:Nat):ag w0 r:=ag.all (all_ok w0 hT) r
end Go.Proofs.YtgledbghdhjgkaaGreatDoor
namespace Go.Ej
open Go.ChangeShapes Go.WideShapes Go.ChangeAt Go.RowKit
theorem vg {H:Type} {enc:TypeId×Value->H} {P:Program} (hl:laidOutB P=true) {W W':World} (hb:Below W.heap.size W W'):
  ∀(ts:List TypeId) (vs:List Value) (ds:List (DataW H)) (ps:List MemPlace),ts.all (fun t=>P.readableRec t&&decide (t < P.types.size))=true->
   DataW.TrodAll enc P W 0 (fun _=>true) true ts vs ds ps->(∀x∈ps,x.block < W.heap.size)->
   DataW.TrodAll enc P W' 0 (fun b=>decide (b < W.heap.size)) true ts vs ds ps
 | [],[],[],_,_,h,_=>h
 | t::ts,v::vs,d::ds,ps,ht,⟨p,q,h1,h2,hp⟩,hlt=>by
  subst hp
  simp only [List.all_cons,Bool.and_eq_true,decide_eq_true_eq] at ht
  exact⟨p,q,Below.trod hl ht.1.1 ht.1.2 h1 hb (fun x hx=>hlt x (by simp [hx])),vg hl hb ts vs ds q ht.2 h2 (fun x hx=>hlt x (by simp [hx])),rfl⟩
theorem We {H:Type} {enc:TypeId×Value->H} {P:Program} {f:Func} {s:ChangeSpec} {W W':World} {args:Array Value} {ds gs:List (DataW H)} {before:List MemPlace} {tb:TypeId}
  (hl:laidOutB P=true) (hpar:f.params.toList.all (fun t=>P.readableRec t&&decide (t < P.types.size))=true)
  (hres:f.resultTypes=#[tb]) (htb:P.underlying tb=some .bool) (hvars:s.vars=[])
  (hW:DataW.Whole enc P f.params.toList s.vars false W args.toList ds gs before)
  (hspec:∀ds:List (DataW H),ds.length=f.params.size->s.fn H ds={results:=[.lit (.bool true)],args:=ds})
  (hb:Below W.heap.size W W'):s.post enc P f false true false false W args (.bool true) W':=by
 have hW':=hW
 have hlt:∀p∈before,p.block < W.heap.size:=fun p hp=>hW.lt p hp
 obtain⟨p,q,hA,hV,rfl,hz,hn⟩:=hW
 rw [hvars] at hV
 obtain⟨rfl,rfl⟩:=trodVars_none hV
 have hlen:∀(ts:List TypeId) (vs:List Value) (ds:List (DataW H)) (ps:List MemPlace),DataW.TrodAll enc P W 0 (fun _=>true) true ts vs ds ps->ds.length=ts.length:=by
  intro ts
  induction ts with
  | nil=>intro vs ds ps h;cases vs<;>cases ds<;>simp_all [DataW.TrodAll]
  | cons t ts ih=>
   intro vs ds ps h
   cases vs with
   | nil=>simp [DataW.TrodAll] at h
   | cons v vs=>
    cases ds with
    | nil=>simp [DataW.TrodAll] at h
    | cons d ds=>
     obtain⟨p,q,_,h2,_⟩:=h
     simp [ih vs ds q h2]
 have hd:=hlen _ _ _ _ hA
 have hs:=hspec ds (by simpa using hd)
 refine⟨ds,[],p++[],[],p,[],hW',?_,?_,?_,hb.frame _,fun h=>by cases h⟩
 ·rw [List.append_nil,hs,hres]
  exact trodAll_mk1 (shut_bool htb _)
 ·rw [List.append_nil,hs]
  exact vg hl hb _ _ _ _ hpar hA (fun x hx=>hlt x (by simp [hx]))
 ·rw [List.append_nil,hs,hvars]
  rfl
end Go.Ej
namespace Go.Proofs.YtgledbghdhjgkaaGreatDoor
open Go Go.TM
theorem Q3 {w0:World} (hT:MI w0) (g:G):av Tryz.prog w0 6 [] g fun v g'=>bJ [] [⟨.b (some true),fun | []=>(fun | []=>True | _=>False) | _=>fun _=>False⟩] v/\g'=g:=by
 refine av.of fun σ w vs hv r=>?_
 have hvs:vs=#[]:=by
  simp only [TM.ai] at hv
  exact Array.toList_inj.1 hv
 subst hvs
 refine CallsIn.mono ((Q0 hT).2 ⟨id,fun _=>0⟩ w #[] (by simp [AM.ai]) ⟨fun d o h=>(by cases h),fun d e o o' h=>(by cases h)⟩ ⟨r.below.os,r.below.tape,r.below.output,r.below.size,r.below.block,fun d o h=>(by cases h)⟩) ?_
 rintro e w' ⟨v,q,g1,N1,σ1,rfl,rfl,po,TN⟩
 have hb:RowKit.Below w.heap.size w w':=⟨po.base.os.trans r.below.os.symm,po.base.tape.trans r.below.tape.symm,po.base.output.trans r.below.output.symm,po.keep.size,fun k hk=>(po.keep.block k hk fun d o h=>(by cases h)).1⟩
 have hv:v= .bool true:=by simpa only [AM.af] using TN
 subst hv
 exact⟨_,_,_,σ,rfl,⟨⟨_,List.mem_cons_self ..,[],rfl,trivial,rfl⟩,rfl⟩,aJ.quiet r hb,by show TM.af σ (.b (some true)) _;simp only [TM.af]⟩
theorem Q4 (W:World) (hT:MI W) (m n:Int) (A:Option Addr) (k C:Nat) (l:List Nat) (hl:l.length=k) (hC:k<=C) (hm:C<=9223372036854775807) (hb:∀x∈l,x < 18446744073709551616)
  (h:∀j,j < k->∃b off,A=some ⟨b,off,none⟩/\W.cell? ⟨b,off+j,none⟩=some (.int .u64 ((l.getD j 0:Nat):Int))):
  Calls Tryz.prog 4 #[.int .i64 m, .int .i64 n, .slice A k C] W fun e W'=>e= .returned (.bool true)/\RowKit.Below W.heap.size W W':=by
 have key:∀(R O:Nat) (wd:Nat->Int),(k=0\/A=some ⟨R,O,none⟩)->ky Tryz.prog W (Xz R O k wd)->(∀q,0<=wd q/\wd q < 18446744073709551616)->Calls Tryz.prog 4 #[.int .i64 m, .int .i64 n, .slice A k C] W fun e W'=>e= .returned (.bool true)/\RowKit.Below W.heap.size W W':=by
  intro R O wd hA hY hw
  have hB:=TG W hT 244
  have hc:=VY hA hY hw (by omega) (az hB (by decide)) hB (Q3 hT) (C:=C) m n (fun _=>none)
  refine(callsIn_wide.1 (hc.get (fun _=>none) W #[.int .i64 m, .int .i64 n, .slice A k C] (by simp [TM.ai,TM.af]) ⟨fun r B h=>(by cases h),fun r o h=>(by cases h),fun r B h=>(by cases h),fun r o h=>(by cases h),RowKit.Below.refl _ _⟩)).mono ?_
  rintro e W' ⟨v,r,g',σ',rfl,⟨⟨a,ha,ys,hy,hp,rfl⟩,rfl⟩,po,TN⟩
  simp only [List.mem_cons,List.not_mem_nil,or_false] at ha
  subst ha
  have hv:v= .bool true:=by
   have:TM.af σ' (.b (some true)) v:=TN
   simpa only [TM.af] using this
  exact⟨by rw [hv],po.rel.below⟩
 by_cases hk:k=0
 ·exact key 0 0 (fun _=>0) (.inl hk) ⟨(bI (w0:=W)).ty, .inl (by show 0+k=0;omega)⟩ (fun q=>⟨by decide,by decide⟩)
 ·obtain⟨b,off,rfl,hc0⟩:=h 0 (by omega)
  have hbl:∀j:Nat,l.getD j 0 < 18446744073709551616:=fun j=>by
   by_cases hj:j < l.length
   ·rw [List.getD_eq_getElem?_getD,List.getElem?_eq_getElem hj];exact hb _ (List.getElem_mem hj)
   ·rw [List.getD_eq_getElem?_getD,List.getElem?_eq_none (by omega)];decide
  refine key b off (fun q=>((l.getD (q - off) 0:Nat):Int)) (.inr rfl) ⟨(bI (w0:=W)).ty, .inr ?_⟩ (fun q=>⟨by omega,by have:=hbl (q - off);omega⟩)
  have hlt:=vR hc0
  cases ho:W.heap[b]? with
  | none=>simp [World.cell?,ho] at hc0
  | some o=>
   cases o with
   | cells D e fz=>
    refine⟨hlt,D,e,fz,ho,fun o h1 h2=>?_⟩
    have h1:off<=o:=h1
    have h2:o < off+k:=h2
    obtain⟨b',off',he,hc⟩:=h (o - off) (by omega)
    cases he
    have e3:off+(o - off)=o:=by omega
    rw [e3] at hc
    have hD:D[o]?=some (.int .u64 ((l.getD (o - off) 0:Nat):Int)):=by simpa [World.cell?,ho] using hc
    refine⟨hD,?_⟩
    have hq:=hbl (o - off)
    show IntKind.u64.has ((l.getD (o - off) 0:Nat):Int)
    generalize l.getD (o - off) 0=x at hq ⊢
    simp [IntKind.has,IntKind.min,IntKind.max,IntKind.signed,IntKind.bits]
    omega
   | _=>simp [World.cell?,ho] at hc0
end Go.Proofs.YtgledbghdhjgkaaGreatDoor
namespace Go.Proofs.YtgledbghdhjgkaaGreatDoor
open Go.ChangeShapes Go.WideShapes Go.ChangeAt Go.RowKit Go.Ej
theorem own1:ownKnob Tryz.prog.godebug=none:=by kernel_rfl
theorem Zp:Tryz.prog.globalNamed "math/bits.deBruijn64tab" =some 1:=by kernel_rfl
theorem TH:(Tryz.prog.globals[(1:Nat)]?).map (·.type)=some 352:=by kernel_rfl
theorem TI:Tryz.prog.cellsOf 352=64:=by kernel_rfl
theorem Wh:Tryz.prog.cellsOf 5=1:=by kernel_rfl
def BD:List Int:=Lib.deBruijn64tab.map Int.ofNat
theorem Q5 {P:Program} {W:World} {name:String} {k:IntKind} {zs:List Int} {rest:List (String×DataW Unit)} {g:Nat} {t e:TypeId} {n:Nat} {ps:List MemPlace}
  (hg:P.globalNamed name=some g) (hty:(P.globals[g]?).map (·.type)=some t) (ht:P.underlying t=some (.array n e)) (he:P.underlying e=some (.int k)) (hce:P.cellsOf e=1) (hct:P.cellsOf t=n)
  (h:DataW.LaidVars P W ((name,Lib.tabData k zs)::rest) ps):Lib.TabIs P W name k zs:=by
 obtain⟨g',t',cs,fuel,p,q,hg',ht',hvar,hd,_,_⟩:=h
 obtain rfl:=Option.some.inj (hg.symm.trans hg')
 obtain rfl:=Option.some.inj (hty.symm.trans ht')
 unfold Lib.TabIs
 rw [hvar, <- Lib.cells_of_tab ht he hce hct hd]
theorem XT {W:World} (h:laidMetH Tryz.prog [("math/bits.deBruijn64tab",Rows.laid_math_bits_deBruijn64tab)] W):MI W:=by
 rw [MakeChecks.laidMetH_plain _ _ _ (by kernel_rfl)] at h
 obtain⟨ps,h0,_⟩:=h
 have ht:Lib.TabIs Tryz.prog W "math/bits.deBruijn64tab" .u8 BD:=Q5 Zp TH Tryz.underlying352 Tryz.underlying5 Wh TI h0
 intro j hj
 have:=ht.cell Zp j (by simpa [BD,Lib.deBruijn64tab] using hj)
 rw [this]
 have e:BD.getD j 0=((Lib.deBruijn64tab.getD j 0:Nat):Int):=by
  unfold BD
  simp only [List.getD,List.getElem?_map]
  cases Lib.deBruijn64tab[j]?<;>rfl
 rw [e]
noncomputable def zf (os:Os):World:=World.laidAll Tryz.prog os [("math/bits.deBruijn64tab",Rows.laid_math_bits_deBruijn64tab)]
set_option maxRecDepth 100000 in
theorem TJ (os:Os) (args:Array Value):laidMet Tryz.prog [("math/bits.deBruijn64tab",Rows.laid_math_bits_deBruijn64tab)] ((zf os).forCall (fun _ _=>0) ⟨#[],args,[]⟩).memory:=
 laidMet_laidAll _ (by kernel_rfl) (by kernel_rfl)
theorem Wi:Tryz.prog.cellsOf 25=1:=by kernel_rfl
set_option maxRecDepth 100000 in
theorem Q6 {H:Type} {enc:TypeId×Value->H} {W:World} {sp:Nat->Bool} {v:Value} {d:DataW H} {p:List MemPlace} {r:Reach} {b0:Nat}
  (hval:Value.okWide Tryz.prog W r b0 24 v) (h:DataW.Trod enc Tryz.prog W 0 sp true 24 v d p):∃(a:Option Addr) (n c:Nat) (l:List Nat),v= .slice a n c/\l.length=n/\n<=c/\c<=9223372036854775807/\(∀x∈l,x < 18446744073709551616)/\∀j,j < n->∃b off,a=some ⟨b,off,none⟩/\W.cell? ⟨b,off+j,none⟩=some (.int .u64 ((l.getD j 0:Nat):Int)):=by
 obtain⟨a0,len,cap,rfl⟩:=Go.WideShapes.okWide_slice (P:=Tryz.prog) (t:=24) Tryz.underlying24 hval
 obtain⟨fuel,hf⟩:=h
 rcases open_ints Tryz.underlying24 Tryz.underlying25 Wi hf with⟨hcs,hx⟩ | ⟨a,len',cap',zs,hcs,_,hl,hm,hz,hx,hcell,hwz⟩
 ·simp [Value.cells] at hcs
  obtain⟨rfl,rfl,rfl⟩:=hcs
  exact⟨none,0,0,[],rfl,rfl,Nat.le_refl _,by decide,fun x hx=>(by cases hx),fun j hj=>absurd hj (Nat.not_lt_zero _)⟩
 ·simp [Value.cells] at hcs
  obtain⟨rfl,rfl,rfl⟩:=hcs
  have hlen:len<=zs.length:=by rw [hz];split<;>omega
  have hb:∀j,0<=zs.getD j 0/\zs.getD j 0 < 18446744073709551616:=by
   intro j
   by_cases hj:j < zs.length
   ·have h:=bounds_u64 (hwz (zs[j]) (List.getElem_mem hj))
    simp [List.getD,hj]
    omega
   ·simp [List.getD,List.getElem?_eq_none (Nat.le_of_not_lt hj)]
  refine⟨some a,len,cap,(zs.take len).map Int.toNat,rfl,by simp;omega,hl,hm,?_,fun j hj=>?_⟩
  ·intro x hx
   obtain⟨z,hz',rfl⟩:=List.mem_map.1 hx
   obtain⟨i,hi,rfl⟩:=List.getElem_of_mem (List.mem_of_mem_take hz')
   have:=hb i
   simp [List.getD,hi] at this
   omega
  ·have hj2:j < len:=hj
   have hc:=hcell j (by omega)
   have h0:=hcell 0 (by omega)
   obtain⟨b,off,spot⟩:=a
   have hspot:spot=none:=by simpa [Addr.add] using World.cell?_spot h0
   subst hspot
   refine⟨b,off,rfl,?_⟩
   have e2:Addr.add ⟨b,off,none⟩ j=⟨b,off+j,none⟩:=by unfold Addr.add;split<;>simp_all
   rw [e2] at hc
   rw [hc]
   have:=hb j
   have e3:((zs.take len).map Int.toNat).getD j 0=(zs.getD j 0).toNat:=by
    simp [List.getD,hj2,show j < zs.length by omega]
   rw [e3,Int.toNat_of_nonneg this.1]
set_option maxRecDepth 100000 in
theorem Q7 (H:Type) (enc:TypeId×Value->H) (W:World) (base:Nat) (args:Array Value) (ds gs:List (DataW H)) (before:List MemPlace)
  (hval:∀(j:Nat) t v,Tryz.f4.params[j]?=some t->args[j]?=some v->Value.okWide Tryz.prog W .any base t v)
  (hW:DataW.Whole enc Tryz.prog Tryz.f4.params.toList Rows.topStepsSpec.vars false W args.toList ds gs before) (hL:laidMetH Tryz.prog Rows.topStepsRow.laid W):
  Calls Tryz.prog 4 args W fun e W'=>∃v,e= .returned v/\Rows.topStepsSpec.post enc Tryz.prog Tryz.f4 false true false false W args v W':=by
 have hT:MI W:=XT hL
 have hW':=hW
 obtain⟨p,q,El,hV,rfl,hfz,hnd⟩:=hW
 have hA:DataW.TrodAll enc Tryz.prog W 0 (fun _=>true) true Tryz.f4.params.toList args.toList ds p:=El
 rw [Tryz.params4] at hA hval
 obtain⟨v0,vs0,d0,ds0,p0,q0,ha0,rfl,rfl,h0,r0⟩:=trodAll_cons hA
 obtain⟨v1,vs1,d1,ds1,p1,q1,ha1,rfl,rfl,h1,r1⟩:=trodAll_cons r0
 obtain⟨v2,vs2,d2,ds2,p2,q2,ha2,rfl,rfl,h2,r2⟩:=trodAll_cons r1
 obtain⟨hn,rfl,rfl⟩:=trodAll_nil r2
 obtain rfl:args=#[v0,v1,v2]:=by
  apply Array.toList_inj.1
  simp only [ha0,ha1,ha2,hn]
 obtain⟨x0,rfl,rfl,rfl,wx0⟩:=open_int Tryz.underlying3 (hval 0 3 v0 rfl rfl) h0
 obtain⟨x1,rfl,rfl,rfl,wx1⟩:=open_int Tryz.underlying3 (hval 1 3 v1 rfl rfl) h1
 obtain⟨a2,n2,c2,l2,rfl,e1,e2,e3,e4,e5⟩:=Q6 (hval 2 24 v2 rfl rfl) h2
 refine(Q4 W hT x0 x1 a2 n2 c2 l2 e1 e2 e3 e4 e5).mono fun e W' ⟨he,hb⟩=>⟨_,he,We (tb:=4) (by kernel_rfl) (by kernel_rfl) rfl Tryz.underlying4 rfl hW' (fun ds hd=>?_) hb⟩
 match ds,hd with
 | [e0,e1,e2],_=>rfl
theorem IP (os:Os) {H:Type} (enc:TypeId×Value->H):∃places,DataW.whole enc Tryz.prog ((zf os).forCall (fun _ _=>0) ⟨#[],#[Value.int .i64 0,Value.int .i64 0,Value.slice none 0 0],[]⟩).memory Tryz.f4.params.toList Rows.topStepsSpec.vars false (#[Value.int .i64 0,Value.int .i64 0,Value.slice none 0 0]:Array Value).toList 8=some ([.lit (.int .i64 0), .lit (.int .i64 0), .nil],[],places):=
 ⟨[],by kernel_rfl⟩
set_option maxRecDepth 100000 in
theorem EY (os:Os) (started:os.Started) (H:Type) (enc:TypeId×Value->H) (F:Stop.Interp):
  ReturnsInHanded {} Tryz.checked os 4 .any ((OpenSpec.ofChange Rows.topStepsSpec).preRow enc Tryz.prog Tryz.f4 Rows.topStepsRow.domain false Rows.topStepsRow.laid) (((OpenSpec.ofChange Rows.topStepsSpec).at F).post enc Tryz.prog Tryz.f4 false true false false):=by
 obtain⟨places,hx⟩:=IP os enc
 refine returnsInHanded_of_row (C:=Tryz.checked) (s:=OpenSpec.ofChange Rows.topStepsSpec) own1 started (by kernel_rfl) Tryz.func4
  (witness_row_at (enc:=enc) (C:=Tryz.checked) false (zf os) #[Value.int .i64 0,Value.int .i64 0,Value.slice none 0 0] (World.laidAll_os _ _ _) (by kernel_rfl) (by kernel_rfl) (by kernel_rfl)
   (OpenSpec.preRow_of_cond 8 hx (by kernel_rfl) (fun k hk=>by cases hk) (by kernel_rfl) (TJ os _))) ?_
 intro W base args ds gs before hval hW _ _ _ hL _ _
 exact Q7 H enc W base args ds gs before hval hW hL
set_option maxRecDepth 100000 in
theorem jf1:Tryz.prog.inPlace 4=Rows.topStepsRow.inPlace:=by kernel_rfl
set_option maxRecDepth 100000 in
theorem jf2:Tryz.prog.unfollowed 4=Rows.topStepsRow.unfollowed:=by kernel_rfl
set_option maxRecDepth 100000 in
theorem jf3:Tryz.prog.recurses 4=Rows.topStepsRow.recurses:=by kernel_rfl
set_option maxRecDepth 100000 in
theorem jf4:Tryz.prog.varsNamed 4=Rows.topStepsRow.named:=by kernel_rfl
set_option maxRecDepth 100000 in
theorem joined:joinedFacts Tryz.pinned.checked.prog 4 Tryz.f4 (OpenSpec.ofChange Rows.topStepsSpec).bare Rows.topStepsRow=true:=by
 show joinedFacts Tryz.prog 4 Tryz.f4 (OpenSpec.ofChange Rows.topStepsSpec).bare Rows.topStepsRow=true
 unfold joinedFacts
 rw [jf1,jf2,jf3,jf4]
 kernel_rfl
set_option maxRecDepth 100000 in
theorem JB:Rows.TopStepsSaid:=
 OpenClaim.holds_of_cond 4 Tryz.f4 rfl rfl rfl rfl rfl rfl rfl ⟨rfl,rfl,rfl,rfl,rfl⟩ rfl rfl rfl rfl rfl (by kernel_rfl) Tryz.func4 joined
  (of_decide_eq_true (by kernel_rfl)) (by unfold Func.isWrapper;first | (rw [if_pos (by decide+kernel)];kernel_rfl) | (rw [if_neg (by decide+kernel)];exact⟨rfl,rfl⟩))
  (fun os started H enc _ F=>by rw [OpenClaim.pre_eq_preRow];exact EY os started H enc F)
theorem IQ (f:FuncId) (fn:Func) (hf:Tryz.pinned.checked.prog.funcNamed "plumbline/plumblinetop.TopSteps" =some f) (hfn:Tryz.pinned.checked.prog.funcs[f]?=some fn):
  false=Tryz.pinned.checked.prog.looks []/\∀(j:Nat) t,fn.params[j]?=some t->Tryz.pinned.checked.prog.wantsStandIn t=false:=by
 obtain rfl:f=4:=Option.some.inj ((show Tryz.prog.funcNamed "plumbline/plumblinetop.TopSteps" =some 4 by kernel_rfl).symm.trans hf) |>.symm
 obtain rfl:fn=Tryz.f4:=(Option.some.inj (Tryz.func4.symm.trans hfn)).symm
 refine⟨by kernel_rfl,fun j t ht=>?_⟩
 have hall:Tryz.f4.params.toList.all (fun t=>!Tryz.prog.wantsStandIn t)=true:=by kernel_rfl
 have hm:=List.all_eq_true.1 hall t (Array.mem_toList_iff.2 (Array.mem_of_getElem? ht))
 exact(by simpa using hm:Tryz.prog.wantsStandIn t=false)
theorem card_TopSteps:Rows.TopStepsCardSaid:=
 Claim7.holds_tied_plain_at .later [] _ _ _ _ JB (fun _ h=>by cases h) (by kernel_rfl) (fun _ h=>by cases h) topSteps_row_tie rfl ⟨rfl,rfl⟩ (by kernel_rfl) rfl IQ (by kernel_rfl)
end Go.Proofs.YtgledbghdhjgkaaGreatDoor
