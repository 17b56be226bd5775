/-
  Layer 3's laws, walked: DyadRings (printed by dyadlaws.py).
-/
import Derived.Test.YtjlaadadbpffdaaGreatDoorDyRing
import Derived.Test.YtjlaadadbpffdaaGreatDoorDySm
set_option linter.unusedSimpArgs false
set_option linter.unusedVariables false
namespace Go.Proofs.YtjlaadadbpffdaaGreatDoor
open Go.RowKit Go.Plumb

theorem rsame_eq {w : World} {a b : Option Addr} {n c m d : Nat} {x y : Dy} (h1 : Num w a n c (limbs x.m)) (h2 : Num w b m d (limbs y.m)) (h : x = y) (hl : (limbs x.m).length ≤ 10000) :
    Calls Tryz.prog 27 #[.agg #[.bool x.s, .slice a n c, .int .i64 x.e], .agg #[.bool y.s, .slice b m d, .int .i64 y.e]] w fun z w' => z = .returned (.bool true) ∧ Below w.heap.size w w' := by
  subst h
  exact rsame3_any x.s x.e h1 h2 rfl hl
set_option maxRecDepth 100000 in
set_option maxHeartbeats 4000000 in
theorem w_DyadRings (w : World) (hT : Tab w) (hQ : PowT Tryz.prog w) (sa : Bool) (a : Option Addr) (na ca : Nat) (la : List Nat) (ea : Int) (Ha : Num w a na ca la) (ha0 : -9223372036854775808 ≤ ea) (ha1 : ea ≤ 9223372036854775807) (sb : Bool) (b : Option Addr) (nb cb : Nat) (lb : List Nat) (eb : Int) (Hb : Num w b nb cb lb) (hb0 : -9223372036854775808 ≤ eb) (hb1 : eb ≤ 9223372036854775807) (sc : Bool) (c : Option Addr) (nc cc : Nat) (lc : List Nat) (ec : Int) (Hc : Num w c nc cc lc) (hc0 : -9223372036854775808 ≤ ec) (hc1 : ec ≤ 9223372036854775807) :
    Calls Tryz.prog 11 #[.agg #[.bool sa, .slice a na ca, .int .i64 ea], .agg #[.bool sb, .slice b nb cb, .int .i64 eb], .agg #[.bool sc, .slice c nc cc, .int .i64 ec]] w fun e w' => e = .returned (.bool true) ∧ Below w.heap.size w w' := by
  have HS : Hid (At w w [(a, na, ca, la), (b, nb, cb, lb), (c, nc, cc, lc)]) := Lib.hid ⟨Below.refl _ _, Ha, Hb, Hc, trivial⟩
  have Ia : Hid (na = la.length ∧ Limbs la ∧ na ≤ 9223372036854775807) := Lib.hid ⟨Ha.1, Ha.limbs, by have h1 := Ha.1; have h2 := Ha.2.1; have h3 := Ha.2.2.1; unfold maxLen at h3; omega⟩
  have Ib : Hid (nb = lb.length ∧ Limbs lb ∧ nb ≤ 9223372036854775807) := Lib.hid ⟨Hb.1, Hb.limbs, by have h1 := Hb.1; have h2 := Hb.2.1; have h3 := Hb.2.2.1; unfold maxLen at h3; omega⟩
  have Ic : Hid (nc = lc.length ∧ Limbs lc ∧ nc ≤ 9223372036854775807) := Lib.hid ⟨Hc.1, Hc.limbs, by have h1 := Hc.1; have h2 := Hc.2.1; have h3 := Hc.2.2.1; unfold maxLen at h3; omega⟩
  clear Ha Hb Hc
  have Xa := ((Boxed3.new w sa a na ca ea 24 (g := w.heap.size) (by simp)).alloc (.cells #[.bool sb, .slice b nb cb, .int .i64 eb] 24)).alloc (.cells #[.bool sc, .slice c nc cc, .int .i64 ec] 24)
  have Xb := (Boxed3.new (w.alloc (.cells #[.bool sa, .slice a na ca, .int .i64 ea] 24)) sb b nb cb eb 24 (g := w.heap.size + 1) (by simp)).alloc (.cells #[.bool sc, .slice c nc cc, .int .i64 ec] 24)
  have Xc := Boxed3.new ((w.alloc (.cells #[.bool sa, .slice a na ca, .int .i64 ea] 24)).alloc (.cells #[.bool sb, .slice b nb cb, .int .i64 eb] 24)) sc c nc cc ec 24 (g := w.heap.size + 1 + 1) (by simp)
  go_enter Tryz.func11, Tryz.ntmps11
  go_wp2_with fail
  refine (known3_any _ (hT.below (by repeat' (first | exact Below.refl _ _ | refine below_alloc ?_ _))) (PowT_below hQ (by repeat' (first | exact Below.refl _ _ | refine below_alloc ?_ _)))).mono ?_
  rintro e w1 ⟨rfl, hb⟩
  have B_a := Lib.hid (Xa.below hb)
  have B_b := Lib.hid (Xb.below hb)
  have B_c := Lib.hid (Xc.below hb)
  replace HS := Lib.hid (HS.out.call (by repeat' (first | exact Below.refl _ _ | refine below_alloc ?_ _)) hb)
  clear hb Xa Xb Xc
  obtain ⟨a0, a1, a2, _, _, _⟩ := id B_a.out
  obtain ⟨b0, b1, b2, _, _, _⟩ := id B_b.out
  obtain ⟨c0, c1, c2, _, _, _⟩ := id B_c.out
  go_wp2_with fail
  have hrow : RowD (w1.alloc (.cells #[.bool sa, .slice a na ca, .int .i64 ea, .bool sb, .slice b nb cb, .int .i64 eb, .bool sc, .slice c nc cc, .int .i64 ec] 24)) w1.heap.size 0 3 (fun i => if i = 0 then sa else if i = 1 then sb else sc) (fun i => if i = 0 then a else if i = 1 then b else c) (fun i => if i = 0 then na else if i = 1 then nb else nc) (fun i => if i = 0 then ca else if i = 1 then cb else cc) (fun i => if i = 0 then ea else if i = 1 then eb else ec) := by
    intro i hi
    have : i = 0 ∨ i = 1 ∨ i = 2 := by omega
    rcases this with rfl | rfl | rfl <;> exact ⟨World.cell?_alloc_at (hn := rfl) .., World.cell?_alloc_at (hn := rfl) .., World.cell?_alloc_at (hn := rfl) ..⟩
  refine (small_any _ _ 0 3 3 _ _ _ _ _ (Nat.le_refl _) (by unfold maxLen; omega) hrow (fun i hi => ?_)).mono ?_
  · have := Ia.out.2.2
    have := Ib.out.2.2
    have := Ic.out.2.2
    show (if i = 0 then na else if i = 1 then nb else nc) ≤ _
    (repeat' split) <;> omega
  rintro e w' ⟨v, rfl, ⟨bl, rfl, hbl⟩, rfl⟩
  clear hrow a0 a1 a2 b0 b1 b2 c0 c1 c2

  replace HS : Hid (At w (w1.alloc (.cells #[.bool sa, .slice a na ca, .int .i64 ea, .bool sb, .slice b nb cb, .int .i64 eb, .bool sc, .slice c nc cc, .int .i64 ec] 24)) [(a, na, ca, la), (b, nb, cb, lb), (c, nc, cc, lc)]) := Lib.hid (HS.out.later (below_alloc (Below.refl _ _) _))
  generalize hw2 : w1.alloc (.cells #[.bool sa, .slice a na ca, .int .i64 ea, .bool sb, .slice b nb cb, .int .i64 eb, .bool sc, .slice c nc cc, .int .i64 ec] 24) = w2 at HS ⊢
  have B2_a : Hid (Boxed3 w2 w.heap.size sa a na ca ea) := Lib.hid (by rw [← hw2]; exact B_a.out.alloc _)
  have B2_b : Hid (Boxed3 w2 (w.heap.size + 1) sb b nb cb eb) := Lib.hid (by rw [← hw2]; exact B_b.out.alloc _)
  have B2_c : Hid (Boxed3 w2 (w.heap.size + 1 + 1) sc c nc cc ec) := Lib.hid (by rw [← hw2]; exact B_c.out.alloc _)
  clear hw2 B_a B_b B_c
  have B_a := B2_a
  clear B2_a
  have B_b := B2_b
  clear B2_b
  have B_c := B2_c
  clear B2_c
  cases bl
  · go_wp2_with fail
    go_ret
    exact ⟨rfl, HS.out.1⟩
  · have hall := (hbl.1 rfl).1
    have oa := hall 0 (by omega)
    have ob := hall 1 (by omega)
    have oc := hall 2 (by omega)
    have oa' : na ≤ 4 ∧ -2000 ≤ ea ∧ ea ≤ 2000 := oa
    have ob' : nb ≤ 4 ∧ -2000 ≤ eb ∧ eb ≤ 2000 := ob
    have oc' : nc ≤ 4 ∧ -2000 ≤ ec ∧ ec ≤ 2000 := oc
    clear hall oa ob oc hbl
    obtain ⟨K, hK⟩ : ∃ K, K = 4256 := ⟨_, rfl⟩
    have fa := Fit.raw (s := sa) Ia.out.2.1 (by have := Ia.out.1; omega) oa'.2.1 oa'.2.2 hK
    have fb := Fit.raw (s := sb) Ib.out.2.1 (by have := Ib.out.1; omega) ob'.2.1 ob'.2.2 hK
    have fc := Fit.raw (s := sc) Ic.out.2.1 (by have := Ic.out.1; omega) oc'.2.1 oc'.2.2 hK
    have ma : mayE ea := by unfold mayE; omega
    have mb : mayE eb := by unfold mayE; omega
    have mc : mayE ec := by unfold mayE; omega
    obtain ⟨Aa, hAa⟩ : ∃ D : Dy, (⟨sa, valL la, ea⟩ : Dy) = D := ⟨_, rfl⟩
    obtain ⟨Ab, hAb⟩ : ∃ D : Dy, (⟨sb, valL lb, eb⟩ : Dy) = D := ⟨_, rfl⟩
    obtain ⟨Ac, hAc⟩ : ∃ D : Dy, (⟨sc, valL lc, ec⟩ : Dy) = D := ⟨_, rfl⟩
    rw [hAa] at fa
    replace ma : mayE Aa.e := by rw [← hAa]; exact ma
    have la' : la.length ≤ 4 := by have := Ia.out.1; omega
    rw [hAb] at fb
    replace mb : mayE Ab.e := by rw [← hAb]; exact mb
    have lb' : lb.length ≤ 4 := by have := Ib.out.1; omega
    rw [hAc] at fc
    replace mc : mayE Ac.e := by rw [← hAc]; exact mc
    have lc' : lc.length ≤ 4 := by have := Ic.out.1; omega
    have o_s := sumO_ok fa fb ma mb (by omega) (by omega) (by omega)
    have f_s := (fa.add fb).nrm (by omega)
    obtain ⟨Ds, hDs⟩ : ∃ D, nrm (addD Aa Ab) = D := ⟨_, rfl⟩
    rw [hDs] at o_s f_s
    have o_t := sumO_ok fb fa mb ma (by omega) (by omega) (by omega)
    have f_t := (fb.add fa).nrm (by omega)
    obtain ⟨Dt, hDt⟩ : ∃ D, nrm (addD Ab Aa) = D := ⟨_, rfl⟩
    rw [hDt] at o_t f_t
    have o_u := mulO_ok f_s fc o_s.2.2 mc (by omega) (by omega) (by omega) (by omega) (by omega) (by omega)
    have f_u := (f_s.mul fc).nrm (by omega)
    obtain ⟨Du, hDu⟩ : ∃ D, nrm (mulD Ds Ac) = D := ⟨_, rfl⟩
    rw [hDu] at o_u f_u
    have o_x := mulO_ok fa fc ma mc (by omega) (by omega) (by omega) (by omega) (by omega) (by omega)
    have f_x := (fa.mul fc).nrm (by omega)
    obtain ⟨Dx, hDx⟩ : ∃ D, nrm (mulD Aa Ac) = D := ⟨_, rfl⟩
    rw [hDx] at o_x f_x
    have o_y := mulO_ok fc fb mc mb (by omega) (by omega) (by omega) (by omega) (by omega) (by omega)
    have f_y := (fc.mul fb).nrm (by omega)
    obtain ⟨Dy_, hDy⟩ : ∃ D, nrm (mulD Ac Ab) = D := ⟨_, rfl⟩
    rw [hDy] at o_y f_y
    have o_v := sumO_ok f_x f_y o_x.2 o_y.2 (by omega) (by omega) (by omega)
    have f_v := (f_x.add f_y).nrm (by omega)
    obtain ⟨Dv, hDv⟩ : ∃ D, nrm (addD Dx Dy_) = D := ⟨_, rfl⟩
    rw [hDv] at o_v f_v
    have o_p := sumO_ok f_s (fc.more (Nat.le_succ _)) o_s.2.2 mc (by omega) (by omega) (by omega)
    have f_p := (f_s.add (fc.more (Nat.le_succ _))).nrm (by omega)
    obtain ⟨Dp, hDp⟩ : ∃ D, nrm (addD Ds Ac) = D := ⟨_, rfl⟩
    rw [hDp] at o_p f_p
    have o_q := sumO_ok fb fc mb mc (by omega) (by omega) (by omega)
    have f_q := (fb.add fc).nrm (by omega)
    obtain ⟨Dq, hDq⟩ : ∃ D, nrm (addD Ab Ac) = D := ⟨_, rfl⟩
    rw [hDq] at o_q f_q
    have o_r := sumO_ok (fa.more (Nat.le_succ _)) f_q ma o_q.2.2 (by omega) (by omega) (by omega)
    have f_r := ((fa.more (Nat.le_succ _)).add f_q).nrm (by omega)
    obtain ⟨Dr, hDr⟩ : ∃ D, nrm (addD Aa Dq) = D := ⟨_, rfl⟩
    rw [hDr] at o_r f_r
    have o_d := sumO_ok fa fb.neg ma mb (by omega) (by omega) (by omega)
    have f_d := (fa.add fb.neg).nrm (by omega)
    obtain ⟨Dd, hDd⟩ : ∃ D, nrm (addD Aa (negD Ab)) = D := ⟨_, rfl⟩
    rw [hDd] at o_d f_d
    have o_z := sumO_ok f_s (fb.neg.more (Nat.le_succ _)) o_s.2.2 mb (by omega) (by omega) (by omega)
    have f_z := (f_s.add (fb.neg.more (Nat.le_succ _))).nrm (by omega)
    obtain ⟨Dz, hDz⟩ : ∃ D, nrm (addD Ds (negD Ab)) = D := ⟨_, rfl⟩
    rw [hDz] at o_z f_z
    have o_k := mulO_ok f_s f_d o_s.2.2 o_d.2.2 (by omega) (by omega) (by omega) (by omega) (by omega) (by omega)
    have f_k := (f_s.mul f_d).nrm (by omega)
    obtain ⟨Dk, hDk⟩ : ∃ D, nrm (mulD Ds Dd) = D := ⟨_, rfl⟩
    rw [hDk] at o_k f_k
    have o_l := mulO_ok fa fa ma ma (by omega) (by omega) (by omega) (by omega) (by omega) (by omega)
    have f_l := (fa.mul fa).nrm (by omega)
    obtain ⟨Dl, hDl⟩ : ∃ D, nrm (mulD Aa Aa) = D := ⟨_, rfl⟩
    rw [hDl] at o_l f_l
    have o_m := mulO_ok fb fb mb mb (by omega) (by omega) (by omega) (by omega) (by omega) (by omega)
    have f_m := (fb.mul fb).nrm (by omega)
    obtain ⟨Dm, hDm⟩ : ∃ D, nrm (mulD Ab Ab) = D := ⟨_, rfl⟩
    rw [hDm] at o_m f_m
    have o_o := sumO_ok f_l f_m.neg o_l.2 o_m.2 (by omega) (by omega) (by omega)
    have f_o := (f_l.add f_m.neg).nrm (by omega)
    obtain ⟨Do, hDo⟩ : ∃ D, nrm (addD Dl (negD Dm)) = D := ⟨_, rfl⟩
    rw [hDo] at o_o f_o
    have i1 := ring_comm fa fb
    have i2 := ring_spread fa fb fc (by omega)
    have i3 := ring_assoc fa fb fc (by omega)
    have i4 := ring_sign fa fb (by omega)
    have i5 := ring_back fa fb (by omega)
    have i6 := ring_square fa fb (by omega)
    rw [hDs, hDt] at i1
    rw [hDs, hDu, hDx, hDy, hDv] at i2
    rw [hDs, hDp, hDq, hDr] at i3
    rw [hDd] at i4
    rw [hDs, hDz] at i5
    rw [hDs, hDd, hDk, hDl, hDm, hDo] at i6
    have nd : nrm Dd = Dd := by rw [← hDd, nrm_nrm]
    have hC : cmpO Aa Ab = (sideD Dd, 0) := by
      unfold cmpO
      have e1 := fa.e (by omega) (by omega)
      have e2 := fb.e (by omega) (by omega)
      rw [if_pos ⟨ma, mb⟩, if_neg (near_of_e (by omega)).1, i4]
    have hSg : signO Dd = sideD Dd := by unfold signO; rw [if_pos o_d.2.2, nd]
    have hnn : normO Aa = (Dz, 0) := normO_is ma i5.symm o_z.2.2
    obtain ⟨Z, hZ⟩ : ∃ Z, sideD Dd = Z := ⟨_, rfl⟩
    rw [hZ] at hC hSg
    have len_s := f_s.len
    have len_t := f_t.len
    have len_u := f_u.len
    have len_x := f_x.len
    have len_y := f_y.len
    have len_v := f_v.len
    have len_p := f_p.len
    have len_q := f_q.len
    have len_r := f_r.len
    have len_d := f_d.len
    have len_z := f_z.len
    have len_k := f_k.len
    have len_l := f_l.len
    have len_m := f_m.len
    have len_o := f_o.len
    replace len_s : (limbs Ds.m).length ≤ 140 := by omega
    replace len_t : (limbs Dt.m).length ≤ 140 := by omega
    replace len_u : (limbs Du.m).length ≤ 140 := by omega
    replace len_x : (limbs Dx.m).length ≤ 140 := by omega
    replace len_y : (limbs Dy_.m).length ≤ 140 := by omega
    replace len_v : (limbs Dv.m).length ≤ 140 := by omega
    replace len_p : (limbs Dp.m).length ≤ 140 := by omega
    replace len_q : (limbs Dq.m).length ≤ 140 := by omega
    replace len_r : (limbs Dr.m).length ≤ 140 := by omega
    replace len_d : (limbs Dd.m).length ≤ 140 := by omega
    replace len_z : (limbs Dz.m).length ≤ 140 := by omega
    replace len_k : (limbs Dk.m).length ≤ 140 := by omega
    replace len_l : (limbs Dl.m).length ≤ 140 := by omega
    replace len_m : (limbs Dm.m).length ≤ 140 := by omega
    replace len_o : (limbs Do.m).length ≤ 140 := by omega
    have HLn : Hid ((limbs Ds.m).length ≤ 140 ∧ (limbs Dt.m).length ≤ 140 ∧ (limbs Du.m).length ≤ 140 ∧ (limbs Dx.m).length ≤ 140 ∧ (limbs Dy_.m).length ≤ 140 ∧ (limbs Dv.m).length ≤ 140 ∧ (limbs Dp.m).length ≤ 140 ∧ (limbs Dq.m).length ≤ 140 ∧ (limbs Dr.m).length ≤ 140 ∧ (limbs Dd.m).length ≤ 140 ∧ (limbs Dz.m).length ≤ 140 ∧ (limbs Dk.m).length ≤ 140 ∧ (limbs Dl.m).length ≤ 140 ∧ (limbs Dm.m).length ≤ 140 ∧ (limbs Do.m).length ≤ 140) := Lib.hid ⟨len_s, len_t, len_u, len_x, len_y, len_v, len_p, len_q, len_r, len_d, len_z, len_k, len_l, len_m, len_o⟩
    have HAA := Lib.hid (And.intro la' (And.intro lb' lc'))
    have HA := Lib.hid (And.intro hAa (And.intro hAb hAc))
    have HM := Lib.hid (And.intro ma (And.intro mb mc))
    have O_s := Lib.hid o_s
    have O_t := Lib.hid o_t
    have O_u := Lib.hid o_u
    have O_x := Lib.hid o_x
    have O_y := Lib.hid o_y
    have O_v := Lib.hid o_v
    have O_p := Lib.hid o_p
    have O_q := Lib.hid o_q
    have O_r := Lib.hid o_r
    have O_d := Lib.hid o_d
    have O_z := Lib.hid o_z
    have O_k := Lib.hid o_k
    have O_l := Lib.hid o_l
    have O_m := Lib.hid o_m
    have O_o := Lib.hid o_o
    have HI := Lib.hid (And.intro i1 (And.intro i2 (And.intro i3 (And.intro i6 (And.intro hC (And.intro hSg hnn))))))
    clear oa' ob' oc' hK fa fb fc ma mb mc la' lb' lc' i1 i2 i3 i4 i5 i6 nd hC hSg hnn hZ hAa hAb hAc o_s f_s hDs len_s o_t f_t hDt len_t o_u f_u hDu len_u o_x f_x hDx len_x o_y f_y hDy len_y o_v f_v hDv len_v o_p f_p hDp len_p o_q f_q hDq len_q o_r f_r hDr len_r o_d f_d hDd len_d o_z f_z hDz len_z o_k f_k hDk len_k o_l f_l hDl len_l o_m f_m hDm len_m o_o f_o hDo len_o
    obtain ⟨a0, a1, a2, _, _, _⟩ := id (B_a.out)
    obtain ⟨b0, b1, b2, _, _, _⟩ := id (B_b.out)
    go_wp2_with fail
    refine (dAdd_v sa sb ea eb Ds 0 (hT.below (below_step HS.out.1 (by repeat' (first | exact Below.refl _ _ | refine below_alloc ?_ _)))) (HS.out.get 0 rfl (by repeat' (first | exact Below.refl _ _ | refine below_alloc ?_ _))) (HS.out.get 1 rfl (by repeat' (first | exact Below.refl _ _ | refine below_alloc ?_ _))) rfl rfl (by have := HLn.out; have := HAA.out; omega) (by have ha := HA.out.1; have hb := HA.out.2.1; subst ha; subst hb; exact O_s.out.2.1) (by have ha := HA.out.1; have hb := HA.out.2.1; subst ha; subst hb; exact O_s.out.1)).mono ?_
    rintro e w3 ⟨a_s_, n_s_, c_s_, rfl, h0, hb⟩
    replace B_a := Lib.hid (B_a.out.later (by repeat' (first | exact Below.refl _ _ | refine below_alloc ?_ _)) hb)
    replace B_b := Lib.hid (B_b.out.later (by repeat' (first | exact Below.refl _ _ | refine below_alloc ?_ _)) hb)
    replace B_c := Lib.hid (B_c.out.later (by repeat' (first | exact Below.refl _ _ | refine below_alloc ?_ _)) hb)
    clear a0 a1 a2 b0 b1 b2
    replace HS := Lib.hid (HS.out.num (by repeat' (first | exact Below.refl _ _ | refine below_alloc ?_ _)) hb h0)
    have L_s_ := Lib.hid h0.1
    clear hb h0
    obtain ⟨b0, b1, b2, _, _, _⟩ := id ((B_b.out).alloc (.cells #[.bool (Ds.s), .slice a_s_ n_s_ c_s_, .int .i64 (Ds.e)] 24))
    obtain ⟨a0, a1, a2, _, _, _⟩ := id ((B_a.out).alloc (.cells #[.bool (Ds.s), .slice a_s_ n_s_ c_s_, .int .i64 (Ds.e)] 24))
    go_wp2_with fail
    refine (dAdd_v sb sa eb ea Dt 0 (hT.below (below_step HS.out.1 (by repeat' (first | exact Below.refl _ _ | refine below_alloc ?_ _)))) (HS.out.get 2 rfl (by repeat' (first | exact Below.refl _ _ | refine below_alloc ?_ _))) (HS.out.get 1 rfl (by repeat' (first | exact Below.refl _ _ | refine below_alloc ?_ _))) rfl rfl (by have := HLn.out; have := HAA.out; omega) (by have ha := HA.out.1; have hb := HA.out.2.1; subst ha; subst hb; exact O_t.out.2.1) (by have ha := HA.out.1; have hb := HA.out.2.1; subst ha; subst hb; exact O_t.out.1)).mono ?_
    rintro e w4 ⟨a_t_, n_t_, c_t_, rfl, h0, hb⟩
    replace B_a := Lib.hid (B_a.out.later (by repeat' (first | exact Below.refl _ _ | refine below_alloc ?_ _)) hb)
    replace B_b := Lib.hid (B_b.out.later (by repeat' (first | exact Below.refl _ _ | refine below_alloc ?_ _)) hb)
    replace B_c := Lib.hid (B_c.out.later (by repeat' (first | exact Below.refl _ _ | refine below_alloc ?_ _)) hb)
    have B_s := Lib.hid (Boxed3.later (Boxed3.new w3 (Ds.s) a_s_ n_s_ c_s_ (Ds.e) 24 (g := w3.heap.size) (by simp)) (by repeat' (first | exact Below.refl _ _ | refine below_alloc ?_ _)) hb)
    clear b0 b1 b2 a0 a1 a2
    replace HS := Lib.hid (HS.out.num (by repeat' (first | exact Below.refl _ _ | refine below_alloc ?_ _)) hb h0)
    have L_t_ := Lib.hid h0.1
    clear hb h0
    obtain ⟨s0, s1, s2, _, _, _⟩ := id ((B_s.out).alloc (.cells #[.bool (Dt.s), .slice a_t_ n_t_ c_t_, .int .i64 (Dt.e)] 24))
    obtain ⟨c0, c1, c2, _, _, _⟩ := id ((B_c.out).alloc (.cells #[.bool (Dt.s), .slice a_t_ n_t_ c_t_, .int .i64 (Dt.e)] 24))
    go_wp2_with fail
    refine (dMul_v Ds.s sc Ds.e ec Du 0 (hT.below (below_step HS.out.1 (by repeat' (first | exact Below.refl _ _ | refine below_alloc ?_ _)))) (HS.out.get 1 rfl (by repeat' (first | exact Below.refl _ _ | refine below_alloc ?_ _))) (HS.out.get 4 rfl (by repeat' (first | exact Below.refl _ _ | refine below_alloc ?_ _))) (valL_limbs _) rfl (by have := HLn.out; have := HAA.out; omega) (by have hc := HA.out.2.2; subst hc; exact O_u.out.1)).mono ?_
    rintro e w5 ⟨a_u_, n_u_, c_u_, rfl, h0, hb⟩
    replace B_a := Lib.hid (B_a.out.later (by repeat' (first | exact Below.refl _ _ | refine below_alloc ?_ _)) hb)
    replace B_b := Lib.hid (B_b.out.later (by repeat' (first | exact Below.refl _ _ | refine below_alloc ?_ _)) hb)
    replace B_c := Lib.hid (B_c.out.later (by repeat' (first | exact Below.refl _ _ | refine below_alloc ?_ _)) hb)
    replace B_s := Lib.hid (B_s.out.later (by repeat' (first | exact Below.refl _ _ | refine below_alloc ?_ _)) hb)
    have B_t := Lib.hid (Boxed3.later (Boxed3.new w4 (Dt.s) a_t_ n_t_ c_t_ (Dt.e) 24 (g := w4.heap.size) (by simp)) (by repeat' (first | exact Below.refl _ _ | refine below_alloc ?_ _)) hb)
    clear s0 s1 s2 c0 c1 c2
    replace HS := Lib.hid (HS.out.num (by repeat' (first | exact Below.refl _ _ | refine below_alloc ?_ _)) hb h0)
    have L_u_ := Lib.hid h0.1
    clear hb h0
    obtain ⟨a0, a1, a2, _, _, _⟩ := id ((B_a.out).alloc (.cells #[.bool (Du.s), .slice a_u_ n_u_ c_u_, .int .i64 (Du.e)] 24))
    obtain ⟨c0, c1, c2, _, _, _⟩ := id ((B_c.out).alloc (.cells #[.bool (Du.s), .slice a_u_ n_u_ c_u_, .int .i64 (Du.e)] 24))
    go_wp2_with fail
    refine (dMul_v sa sc ea ec Dx 0 (hT.below (below_step HS.out.1 (by repeat' (first | exact Below.refl _ _ | refine below_alloc ?_ _)))) (HS.out.get 3 rfl (by repeat' (first | exact Below.refl _ _ | refine below_alloc ?_ _))) (HS.out.get 5 rfl (by repeat' (first | exact Below.refl _ _ | refine below_alloc ?_ _))) rfl rfl (by have := HLn.out; have := HAA.out; omega) (by have ha := HA.out.1; have hc := HA.out.2.2; subst ha; subst hc; exact O_x.out.1)).mono ?_
    rintro e w6 ⟨a_x_, n_x_, c_x_, rfl, h0, hb⟩
    replace B_a := Lib.hid (B_a.out.later (by repeat' (first | exact Below.refl _ _ | refine below_alloc ?_ _)) hb)
    replace B_b := Lib.hid (B_b.out.later (by repeat' (first | exact Below.refl _ _ | refine below_alloc ?_ _)) hb)
    replace B_c := Lib.hid (B_c.out.later (by repeat' (first | exact Below.refl _ _ | refine below_alloc ?_ _)) hb)
    replace B_s := Lib.hid (B_s.out.later (by repeat' (first | exact Below.refl _ _ | refine below_alloc ?_ _)) hb)
    replace B_t := Lib.hid (B_t.out.later (by repeat' (first | exact Below.refl _ _ | refine below_alloc ?_ _)) hb)
    have B_u := Lib.hid (Boxed3.later (Boxed3.new w5 (Du.s) a_u_ n_u_ c_u_ (Du.e) 24 (g := w5.heap.size) (by simp)) (by repeat' (first | exact Below.refl _ _ | refine below_alloc ?_ _)) hb)
    clear a0 a1 a2 c0 c1 c2
    replace HS := Lib.hid (HS.out.num (by repeat' (first | exact Below.refl _ _ | refine below_alloc ?_ _)) hb h0)
    have L_x_ := Lib.hid h0.1
    clear hb h0
    obtain ⟨c0, c1, c2, _, _, _⟩ := id ((B_c.out).alloc (.cells #[.bool (Dx.s), .slice a_x_ n_x_ c_x_, .int .i64 (Dx.e)] 24))
    obtain ⟨b0, b1, b2, _, _, _⟩ := id ((B_b.out).alloc (.cells #[.bool (Dx.s), .slice a_x_ n_x_ c_x_, .int .i64 (Dx.e)] 24))
    go_wp2_with fail
    refine (dMul_v sc sb ec eb Dy_ 0 (hT.below (below_step HS.out.1 (by repeat' (first | exact Below.refl _ _ | refine below_alloc ?_ _)))) (HS.out.get 6 rfl (by repeat' (first | exact Below.refl _ _ | refine below_alloc ?_ _))) (HS.out.get 5 rfl (by repeat' (first | exact Below.refl _ _ | refine below_alloc ?_ _))) rfl rfl (by have := HLn.out; have := HAA.out; omega) (by have hb := HA.out.2.1; have hc := HA.out.2.2; subst hb; subst hc; exact O_y.out.1)).mono ?_
    rintro e w7 ⟨a_y_, n_y_, c_y_, rfl, h0, hb⟩
    replace B_a := Lib.hid (B_a.out.later (by repeat' (first | exact Below.refl _ _ | refine below_alloc ?_ _)) hb)
    replace B_b := Lib.hid (B_b.out.later (by repeat' (first | exact Below.refl _ _ | refine below_alloc ?_ _)) hb)
    replace B_c := Lib.hid (B_c.out.later (by repeat' (first | exact Below.refl _ _ | refine below_alloc ?_ _)) hb)
    replace B_s := Lib.hid (B_s.out.later (by repeat' (first | exact Below.refl _ _ | refine below_alloc ?_ _)) hb)
    replace B_t := Lib.hid (B_t.out.later (by repeat' (first | exact Below.refl _ _ | refine below_alloc ?_ _)) hb)
    replace B_u := Lib.hid (B_u.out.later (by repeat' (first | exact Below.refl _ _ | refine below_alloc ?_ _)) hb)
    have B_x := Lib.hid (Boxed3.later (Boxed3.new w6 (Dx.s) a_x_ n_x_ c_x_ (Dx.e) 24 (g := w6.heap.size) (by simp)) (by repeat' (first | exact Below.refl _ _ | refine below_alloc ?_ _)) hb)
    clear c0 c1 c2 b0 b1 b2
    replace HS := Lib.hid (HS.out.num (by repeat' (first | exact Below.refl _ _ | refine below_alloc ?_ _)) hb h0)
    have L_y_ := Lib.hid h0.1
    clear hb h0
    obtain ⟨x0, x1, x2, _, _, _⟩ := id ((B_x.out).alloc (.cells #[.bool (Dy_.s), .slice a_y_ n_y_ c_y_, .int .i64 (Dy_.e)] 24))
    go_wp2_with fail
    refine (dAdd_v Dx.s Dy_.s Dx.e Dy_.e Dv 0 (hT.below (below_step HS.out.1 (by repeat' (first | exact Below.refl _ _ | refine below_alloc ?_ _)))) (HS.out.get 1 rfl (by repeat' (first | exact Below.refl _ _ | refine below_alloc ?_ _))) (HS.out.get 0 rfl (by repeat' (first | exact Below.refl _ _ | refine below_alloc ?_ _))) (valL_limbs _) (valL_limbs _) (by have := HLn.out; have := HAA.out; omega) O_v.out.2.1 O_v.out.1).mono ?_
    rintro e w8 ⟨a_v_, n_v_, c_v_, rfl, h0, hb⟩
    replace B_a := Lib.hid (B_a.out.later (by repeat' (first | exact Below.refl _ _ | refine below_alloc ?_ _)) hb)
    replace B_b := Lib.hid (B_b.out.later (by repeat' (first | exact Below.refl _ _ | refine below_alloc ?_ _)) hb)
    replace B_c := Lib.hid (B_c.out.later (by repeat' (first | exact Below.refl _ _ | refine below_alloc ?_ _)) hb)
    replace B_s := Lib.hid (B_s.out.later (by repeat' (first | exact Below.refl _ _ | refine below_alloc ?_ _)) hb)
    replace B_t := Lib.hid (B_t.out.later (by repeat' (first | exact Below.refl _ _ | refine below_alloc ?_ _)) hb)
    replace B_u := Lib.hid (B_u.out.later (by repeat' (first | exact Below.refl _ _ | refine below_alloc ?_ _)) hb)
    replace B_x := Lib.hid (B_x.out.later (by repeat' (first | exact Below.refl _ _ | refine below_alloc ?_ _)) hb)
    have B_y := Lib.hid (Boxed3.later (Boxed3.new w7 (Dy_.s) a_y_ n_y_ c_y_ (Dy_.e) 24 (g := w7.heap.size) (by simp)) (by repeat' (first | exact Below.refl _ _ | refine below_alloc ?_ _)) hb)
    clear x0 x1 x2
    replace HS := Lib.hid (HS.out.num (by repeat' (first | exact Below.refl _ _ | refine below_alloc ?_ _)) hb h0)
    have L_v_ := Lib.hid h0.1
    clear hb h0
    obtain ⟨s0, s1, s2, _, _, _⟩ := id ((B_s.out).alloc (.cells #[.bool (Dv.s), .slice a_v_ n_v_ c_v_, .int .i64 (Dv.e)] 24))
    obtain ⟨c0, c1, c2, _, _, _⟩ := id ((B_c.out).alloc (.cells #[.bool (Dv.s), .slice a_v_ n_v_ c_v_, .int .i64 (Dv.e)] 24))
    go_wp2_with fail
    refine (dAdd_v Ds.s sc Ds.e ec Dp 0 (hT.below (below_step HS.out.1 (by repeat' (first | exact Below.refl _ _ | refine below_alloc ?_ _)))) (HS.out.get 5 rfl (by repeat' (first | exact Below.refl _ _ | refine below_alloc ?_ _))) (HS.out.get 8 rfl (by repeat' (first | exact Below.refl _ _ | refine below_alloc ?_ _))) (valL_limbs _) rfl (by have := HLn.out; have := HAA.out; omega) (by have hc := HA.out.2.2; subst hc; exact O_p.out.2.1) (by have hc := HA.out.2.2; subst hc; exact O_p.out.1)).mono ?_
    rintro e w9 ⟨a_p_, n_p_, c_p_, rfl, h0, hb⟩
    replace B_a := Lib.hid (B_a.out.later (by repeat' (first | exact Below.refl _ _ | refine below_alloc ?_ _)) hb)
    replace B_b := Lib.hid (B_b.out.later (by repeat' (first | exact Below.refl _ _ | refine below_alloc ?_ _)) hb)
    replace B_c := Lib.hid (B_c.out.later (by repeat' (first | exact Below.refl _ _ | refine below_alloc ?_ _)) hb)
    replace B_s := Lib.hid (B_s.out.later (by repeat' (first | exact Below.refl _ _ | refine below_alloc ?_ _)) hb)
    replace B_t := Lib.hid (B_t.out.later (by repeat' (first | exact Below.refl _ _ | refine below_alloc ?_ _)) hb)
    replace B_u := Lib.hid (B_u.out.later (by repeat' (first | exact Below.refl _ _ | refine below_alloc ?_ _)) hb)
    replace B_x := Lib.hid (B_x.out.later (by repeat' (first | exact Below.refl _ _ | refine below_alloc ?_ _)) hb)
    replace B_y := Lib.hid (B_y.out.later (by repeat' (first | exact Below.refl _ _ | refine below_alloc ?_ _)) hb)
    have B_v := Lib.hid (Boxed3.later (Boxed3.new w8 (Dv.s) a_v_ n_v_ c_v_ (Dv.e) 24 (g := w8.heap.size) (by simp)) (by repeat' (first | exact Below.refl _ _ | refine below_alloc ?_ _)) hb)
    clear s0 s1 s2 c0 c1 c2
    replace HS := Lib.hid (HS.out.num (by repeat' (first | exact Below.refl _ _ | refine below_alloc ?_ _)) hb h0)
    have L_p_ := Lib.hid h0.1
    clear hb h0
    obtain ⟨b0, b1, b2, _, _, _⟩ := id ((B_b.out).alloc (.cells #[.bool (Dp.s), .slice a_p_ n_p_ c_p_, .int .i64 (Dp.e)] 24))
    obtain ⟨c0, c1, c2, _, _, _⟩ := id ((B_c.out).alloc (.cells #[.bool (Dp.s), .slice a_p_ n_p_ c_p_, .int .i64 (Dp.e)] 24))
    go_wp2_with fail
    refine (dAdd_v sb sc eb ec Dq 0 (hT.below (below_step HS.out.1 (by repeat' (first | exact Below.refl _ _ | refine below_alloc ?_ _)))) (HS.out.get 8 rfl (by repeat' (first | exact Below.refl _ _ | refine below_alloc ?_ _))) (HS.out.get 9 rfl (by repeat' (first | exact Below.refl _ _ | refine below_alloc ?_ _))) rfl rfl (by have := HLn.out; have := HAA.out; omega) (by have hb := HA.out.2.1; have hc := HA.out.2.2; subst hb; subst hc; exact O_q.out.2.1) (by have hb := HA.out.2.1; have hc := HA.out.2.2; subst hb; subst hc; exact O_q.out.1)).mono ?_
    rintro e w10 ⟨a_q_, n_q_, c_q_, rfl, h0, hb⟩
    replace B_a := Lib.hid (B_a.out.later (by repeat' (first | exact Below.refl _ _ | refine below_alloc ?_ _)) hb)
    replace B_b := Lib.hid (B_b.out.later (by repeat' (first | exact Below.refl _ _ | refine below_alloc ?_ _)) hb)
    replace B_c := Lib.hid (B_c.out.later (by repeat' (first | exact Below.refl _ _ | refine below_alloc ?_ _)) hb)
    replace B_s := Lib.hid (B_s.out.later (by repeat' (first | exact Below.refl _ _ | refine below_alloc ?_ _)) hb)
    replace B_t := Lib.hid (B_t.out.later (by repeat' (first | exact Below.refl _ _ | refine below_alloc ?_ _)) hb)
    replace B_u := Lib.hid (B_u.out.later (by repeat' (first | exact Below.refl _ _ | refine below_alloc ?_ _)) hb)
    replace B_x := Lib.hid (B_x.out.later (by repeat' (first | exact Below.refl _ _ | refine below_alloc ?_ _)) hb)
    replace B_y := Lib.hid (B_y.out.later (by repeat' (first | exact Below.refl _ _ | refine below_alloc ?_ _)) hb)
    replace B_v := Lib.hid (B_v.out.later (by repeat' (first | exact Below.refl _ _ | refine below_alloc ?_ _)) hb)
    have B_p := Lib.hid (Boxed3.later (Boxed3.new w9 (Dp.s) a_p_ n_p_ c_p_ (Dp.e) 24 (g := w9.heap.size) (by simp)) (by repeat' (first | exact Below.refl _ _ | refine below_alloc ?_ _)) hb)
    clear b0 b1 b2 c0 c1 c2
    replace HS := Lib.hid (HS.out.num (by repeat' (first | exact Below.refl _ _ | refine below_alloc ?_ _)) hb h0)
    have L_q_ := Lib.hid h0.1
    clear hb h0
    obtain ⟨a0, a1, a2, _, _, _⟩ := id ((B_a.out).alloc (.cells #[.bool (Dq.s), .slice a_q_ n_q_ c_q_, .int .i64 (Dq.e)] 24))
    go_wp2_with fail
    refine (dAdd_v sa Dq.s ea Dq.e Dr 0 (hT.below (below_step HS.out.1 (by repeat' (first | exact Below.refl _ _ | refine below_alloc ?_ _)))) (HS.out.get 8 rfl (by repeat' (first | exact Below.refl _ _ | refine below_alloc ?_ _))) (HS.out.get 0 rfl (by repeat' (first | exact Below.refl _ _ | refine below_alloc ?_ _))) rfl (valL_limbs _) (by have := HLn.out; have := HAA.out; omega) (by have ha := HA.out.1; subst ha; exact O_r.out.2.1) (by have ha := HA.out.1; subst ha; exact O_r.out.1)).mono ?_
    rintro e w11 ⟨a_r_, n_r_, c_r_, rfl, h0, hb⟩
    replace B_a := Lib.hid (B_a.out.later (by repeat' (first | exact Below.refl _ _ | refine below_alloc ?_ _)) hb)
    replace B_b := Lib.hid (B_b.out.later (by repeat' (first | exact Below.refl _ _ | refine below_alloc ?_ _)) hb)
    replace B_c := Lib.hid (B_c.out.later (by repeat' (first | exact Below.refl _ _ | refine below_alloc ?_ _)) hb)
    replace B_s := Lib.hid (B_s.out.later (by repeat' (first | exact Below.refl _ _ | refine below_alloc ?_ _)) hb)
    replace B_t := Lib.hid (B_t.out.later (by repeat' (first | exact Below.refl _ _ | refine below_alloc ?_ _)) hb)
    replace B_u := Lib.hid (B_u.out.later (by repeat' (first | exact Below.refl _ _ | refine below_alloc ?_ _)) hb)
    replace B_x := Lib.hid (B_x.out.later (by repeat' (first | exact Below.refl _ _ | refine below_alloc ?_ _)) hb)
    replace B_y := Lib.hid (B_y.out.later (by repeat' (first | exact Below.refl _ _ | refine below_alloc ?_ _)) hb)
    replace B_v := Lib.hid (B_v.out.later (by repeat' (first | exact Below.refl _ _ | refine below_alloc ?_ _)) hb)
    replace B_p := Lib.hid (B_p.out.later (by repeat' (first | exact Below.refl _ _ | refine below_alloc ?_ _)) hb)
    have B_q := Lib.hid (Boxed3.later (Boxed3.new w10 (Dq.s) a_q_ n_q_ c_q_ (Dq.e) 24 (g := w10.heap.size) (by simp)) (by repeat' (first | exact Below.refl _ _ | refine below_alloc ?_ _)) hb)
    clear a0 a1 a2
    replace HS := Lib.hid (HS.out.num (by repeat' (first | exact Below.refl _ _ | refine below_alloc ?_ _)) hb h0)
    have L_r_ := Lib.hid h0.1
    clear hb h0
    obtain ⟨a0, a1, a2, _, _, _⟩ := id ((B_a.out).alloc (.cells #[.bool (Dr.s), .slice a_r_ n_r_ c_r_, .int .i64 (Dr.e)] 24))
    obtain ⟨b0, b1, b2, _, _, _⟩ := id ((B_b.out).alloc (.cells #[.bool (Dr.s), .slice a_r_ n_r_ c_r_, .int .i64 (Dr.e)] 24))
    go_wp2_with fail
    refine (dSub_v sa sb ea eb Dd 0 (hT.below (below_step HS.out.1 (by repeat' (first | exact Below.refl _ _ | refine below_alloc ?_ _)))) (HS.out.get 9 rfl (by repeat' (first | exact Below.refl _ _ | refine below_alloc ?_ _))) (HS.out.get 10 rfl (by repeat' (first | exact Below.refl _ _ | refine below_alloc ?_ _))) rfl rfl (by have := HLn.out; have := HAA.out; omega) (by have ha := HA.out.1; have hb := HA.out.2.1; subst ha; subst hb; exact O_d.out.2.1) (by have ha := HA.out.1; have hb := HA.out.2.1; subst ha; subst hb; exact O_d.out.1)).mono ?_
    rintro e w12 ⟨a_d_, n_d_, c_d_, rfl, h0, hb⟩
    replace B_a := Lib.hid (B_a.out.later (by repeat' (first | exact Below.refl _ _ | refine below_alloc ?_ _)) hb)
    replace B_b := Lib.hid (B_b.out.later (by repeat' (first | exact Below.refl _ _ | refine below_alloc ?_ _)) hb)
    replace B_c := Lib.hid (B_c.out.later (by repeat' (first | exact Below.refl _ _ | refine below_alloc ?_ _)) hb)
    replace B_s := Lib.hid (B_s.out.later (by repeat' (first | exact Below.refl _ _ | refine below_alloc ?_ _)) hb)
    replace B_t := Lib.hid (B_t.out.later (by repeat' (first | exact Below.refl _ _ | refine below_alloc ?_ _)) hb)
    replace B_u := Lib.hid (B_u.out.later (by repeat' (first | exact Below.refl _ _ | refine below_alloc ?_ _)) hb)
    replace B_x := Lib.hid (B_x.out.later (by repeat' (first | exact Below.refl _ _ | refine below_alloc ?_ _)) hb)
    replace B_y := Lib.hid (B_y.out.later (by repeat' (first | exact Below.refl _ _ | refine below_alloc ?_ _)) hb)
    replace B_v := Lib.hid (B_v.out.later (by repeat' (first | exact Below.refl _ _ | refine below_alloc ?_ _)) hb)
    replace B_p := Lib.hid (B_p.out.later (by repeat' (first | exact Below.refl _ _ | refine below_alloc ?_ _)) hb)
    replace B_q := Lib.hid (B_q.out.later (by repeat' (first | exact Below.refl _ _ | refine below_alloc ?_ _)) hb)
    have B_r := Lib.hid (Boxed3.later (Boxed3.new w11 (Dr.s) a_r_ n_r_ c_r_ (Dr.e) 24 (g := w11.heap.size) (by simp)) (by repeat' (first | exact Below.refl _ _ | refine below_alloc ?_ _)) hb)
    clear a0 a1 a2 b0 b1 b2
    replace HS := Lib.hid (HS.out.num (by repeat' (first | exact Below.refl _ _ | refine below_alloc ?_ _)) hb h0)
    have L_d_ := Lib.hid h0.1
    clear hb h0
    obtain ⟨a0, a1, a2, _, _, _⟩ := id ((B_a.out).alloc (.cells #[.bool (Dd.s), .slice a_d_ n_d_ c_d_, .int .i64 (Dd.e)] 24))
    obtain ⟨b0, b1, b2, _, _, _⟩ := id ((B_b.out).alloc (.cells #[.bool (Dd.s), .slice a_d_ n_d_ c_d_, .int .i64 (Dd.e)] 24))
    go_wp2_with fail
    refine (dCmp_v sa sb ea eb Z 0 (hT.below (below_step HS.out.1 (by repeat' (first | exact Below.refl _ _ | refine below_alloc ?_ _)))) (HS.out.get 10 rfl (by repeat' (first | exact Below.refl _ _ | refine below_alloc ?_ _))) (HS.out.get 11 rfl (by repeat' (first | exact Below.refl _ _ | refine below_alloc ?_ _))) rfl rfl (by have := HLn.out; have := HAA.out; omega) (by have ha := HA.out.1; subst ha; exact HM.out.1) (by have hb := HA.out.2.1; subst hb; exact HM.out.2.1) (by have ha := HA.out.1; have hb := HA.out.2.1; subst ha; subst hb; exact O_s.out.2.1) (by have ha := HA.out.1; have hb := HA.out.2.1; subst ha; subst hb; exact HI.out.2.2.2.2.1)).mono ?_
    rintro e w13 ⟨rfl, hb⟩
    replace B_a := Lib.hid (B_a.out.later (by repeat' (first | exact Below.refl _ _ | refine below_alloc ?_ _)) hb)
    replace B_b := Lib.hid (B_b.out.later (by repeat' (first | exact Below.refl _ _ | refine below_alloc ?_ _)) hb)
    replace B_c := Lib.hid (B_c.out.later (by repeat' (first | exact Below.refl _ _ | refine below_alloc ?_ _)) hb)
    replace B_s := Lib.hid (B_s.out.later (by repeat' (first | exact Below.refl _ _ | refine below_alloc ?_ _)) hb)
    replace B_t := Lib.hid (B_t.out.later (by repeat' (first | exact Below.refl _ _ | refine below_alloc ?_ _)) hb)
    replace B_u := Lib.hid (B_u.out.later (by repeat' (first | exact Below.refl _ _ | refine below_alloc ?_ _)) hb)
    replace B_x := Lib.hid (B_x.out.later (by repeat' (first | exact Below.refl _ _ | refine below_alloc ?_ _)) hb)
    replace B_y := Lib.hid (B_y.out.later (by repeat' (first | exact Below.refl _ _ | refine below_alloc ?_ _)) hb)
    replace B_v := Lib.hid (B_v.out.later (by repeat' (first | exact Below.refl _ _ | refine below_alloc ?_ _)) hb)
    replace B_p := Lib.hid (B_p.out.later (by repeat' (first | exact Below.refl _ _ | refine below_alloc ?_ _)) hb)
    replace B_q := Lib.hid (B_q.out.later (by repeat' (first | exact Below.refl _ _ | refine below_alloc ?_ _)) hb)
    replace B_r := Lib.hid (B_r.out.later (by repeat' (first | exact Below.refl _ _ | refine below_alloc ?_ _)) hb)
    have B_d := Lib.hid (Boxed3.later (Boxed3.new w12 (Dd.s) a_d_ n_d_ c_d_ (Dd.e) 24 (g := w12.heap.size) (by simp)) (by repeat' (first | exact Below.refl _ _ | refine below_alloc ?_ _)) hb)
    clear a0 a1 a2 b0 b1 b2
    replace HS := Lib.hid (HS.out.call (by repeat' (first | exact Below.refl _ _ | refine below_alloc ?_ _)) hb)
    clear hb
    obtain ⟨s0, s1, s2, _, _, _⟩ := id (B_s.out)
    obtain ⟨b0, b1, b2, _, _, _⟩ := id (B_b.out)
    go_wp2_with fail
    refine (dSub_v Ds.s sb Ds.e eb Dz 0 (hT.below (below_step HS.out.1 (by repeat' (first | exact Below.refl _ _ | refine below_alloc ?_ _)))) (HS.out.get 9 rfl (by repeat' (first | exact Below.refl _ _ | refine below_alloc ?_ _))) (HS.out.get 11 rfl (by repeat' (first | exact Below.refl _ _ | refine below_alloc ?_ _))) (valL_limbs _) rfl (by have := HLn.out; have := HAA.out; omega) (by have hb := HA.out.2.1; subst hb; exact O_z.out.2.1) (by have hb := HA.out.2.1; subst hb; exact O_z.out.1)).mono ?_
    rintro e w14 ⟨a_z_, n_z_, c_z_, rfl, h0, hb⟩
    replace B_a := Lib.hid (B_a.out.later (by repeat' (first | exact Below.refl _ _ | refine below_alloc ?_ _)) hb)
    replace B_b := Lib.hid (B_b.out.later (by repeat' (first | exact Below.refl _ _ | refine below_alloc ?_ _)) hb)
    replace B_c := Lib.hid (B_c.out.later (by repeat' (first | exact Below.refl _ _ | refine below_alloc ?_ _)) hb)
    replace B_s := Lib.hid (B_s.out.later (by repeat' (first | exact Below.refl _ _ | refine below_alloc ?_ _)) hb)
    replace B_t := Lib.hid (B_t.out.later (by repeat' (first | exact Below.refl _ _ | refine below_alloc ?_ _)) hb)
    replace B_u := Lib.hid (B_u.out.later (by repeat' (first | exact Below.refl _ _ | refine below_alloc ?_ _)) hb)
    replace B_x := Lib.hid (B_x.out.later (by repeat' (first | exact Below.refl _ _ | refine below_alloc ?_ _)) hb)
    replace B_y := Lib.hid (B_y.out.later (by repeat' (first | exact Below.refl _ _ | refine below_alloc ?_ _)) hb)
    replace B_v := Lib.hid (B_v.out.later (by repeat' (first | exact Below.refl _ _ | refine below_alloc ?_ _)) hb)
    replace B_p := Lib.hid (B_p.out.later (by repeat' (first | exact Below.refl _ _ | refine below_alloc ?_ _)) hb)
    replace B_q := Lib.hid (B_q.out.later (by repeat' (first | exact Below.refl _ _ | refine below_alloc ?_ _)) hb)
    replace B_r := Lib.hid (B_r.out.later (by repeat' (first | exact Below.refl _ _ | refine below_alloc ?_ _)) hb)
    replace B_d := Lib.hid (B_d.out.later (by repeat' (first | exact Below.refl _ _ | refine below_alloc ?_ _)) hb)
    clear s0 s1 s2 b0 b1 b2
    replace HS := Lib.hid (HS.out.num (by repeat' (first | exact Below.refl _ _ | refine below_alloc ?_ _)) hb h0)
    have L_z_ := Lib.hid h0.1
    clear hb h0
    obtain ⟨a0, a1, a2, _, _, _⟩ := id ((B_a.out).alloc (.cells #[.bool (Dz.s), .slice a_z_ n_z_ c_z_, .int .i64 (Dz.e)] 24))
    go_wp2_with fail
    refine (dNorm_v sa ea Dz 0 (hT.below (below_step HS.out.1 (by repeat' (first | exact Below.refl _ _ | refine below_alloc ?_ _)))) (HS.out.get 11 rfl (by repeat' (first | exact Below.refl _ _ | refine below_alloc ?_ _))) rfl (by have := HLn.out; have := HAA.out; omega) (by have ha := HA.out.1; subst ha; exact HI.out.2.2.2.2.2.2)).mono ?_
    rintro e w15 ⟨a_n_, n_n_, c_n_, rfl, h0, hb⟩
    replace B_a := Lib.hid (B_a.out.later (by repeat' (first | exact Below.refl _ _ | refine below_alloc ?_ _)) hb)
    replace B_b := Lib.hid (B_b.out.later (by repeat' (first | exact Below.refl _ _ | refine below_alloc ?_ _)) hb)
    replace B_c := Lib.hid (B_c.out.later (by repeat' (first | exact Below.refl _ _ | refine below_alloc ?_ _)) hb)
    replace B_s := Lib.hid (B_s.out.later (by repeat' (first | exact Below.refl _ _ | refine below_alloc ?_ _)) hb)
    replace B_t := Lib.hid (B_t.out.later (by repeat' (first | exact Below.refl _ _ | refine below_alloc ?_ _)) hb)
    replace B_u := Lib.hid (B_u.out.later (by repeat' (first | exact Below.refl _ _ | refine below_alloc ?_ _)) hb)
    replace B_x := Lib.hid (B_x.out.later (by repeat' (first | exact Below.refl _ _ | refine below_alloc ?_ _)) hb)
    replace B_y := Lib.hid (B_y.out.later (by repeat' (first | exact Below.refl _ _ | refine below_alloc ?_ _)) hb)
    replace B_v := Lib.hid (B_v.out.later (by repeat' (first | exact Below.refl _ _ | refine below_alloc ?_ _)) hb)
    replace B_p := Lib.hid (B_p.out.later (by repeat' (first | exact Below.refl _ _ | refine below_alloc ?_ _)) hb)
    replace B_q := Lib.hid (B_q.out.later (by repeat' (first | exact Below.refl _ _ | refine below_alloc ?_ _)) hb)
    replace B_r := Lib.hid (B_r.out.later (by repeat' (first | exact Below.refl _ _ | refine below_alloc ?_ _)) hb)
    replace B_d := Lib.hid (B_d.out.later (by repeat' (first | exact Below.refl _ _ | refine below_alloc ?_ _)) hb)
    have B_z := Lib.hid (Boxed3.later (Boxed3.new w14 (Dz.s) a_z_ n_z_ c_z_ (Dz.e) 24 (g := w14.heap.size) (by simp)) (by repeat' (first | exact Below.refl _ _ | refine below_alloc ?_ _)) hb)
    clear a0 a1 a2
    replace HS := Lib.hid (HS.out.num (by repeat' (first | exact Below.refl _ _ | refine below_alloc ?_ _)) hb h0)
    have L_n_ := Lib.hid h0.1
    clear hb h0
    obtain ⟨s0, s1, s2, _, _, _⟩ := id ((B_s.out).alloc (.cells #[.bool (Dz.s), .slice a_n_ n_n_ c_n_, .int .i64 (Dz.e)] 24))
    obtain ⟨d0, d1, d2, _, _, _⟩ := id ((B_d.out).alloc (.cells #[.bool (Dz.s), .slice a_n_ n_n_ c_n_, .int .i64 (Dz.e)] 24))
    go_wp2_with fail
    refine (dMul_v Ds.s Dd.s Ds.e Dd.e Dk 0 (hT.below (below_step HS.out.1 (by repeat' (first | exact Below.refl _ _ | refine below_alloc ?_ _)))) (HS.out.get 11 rfl (by repeat' (first | exact Below.refl _ _ | refine below_alloc ?_ _))) (HS.out.get 2 rfl (by repeat' (first | exact Below.refl _ _ | refine below_alloc ?_ _))) (valL_limbs _) (valL_limbs _) (by have := HLn.out; have := HAA.out; omega) O_k.out.1).mono ?_
    rintro e w16 ⟨a_k_, n_k_, c_k_, rfl, h0, hb⟩
    replace B_a := Lib.hid (B_a.out.later (by repeat' (first | exact Below.refl _ _ | refine below_alloc ?_ _)) hb)
    replace B_b := Lib.hid (B_b.out.later (by repeat' (first | exact Below.refl _ _ | refine below_alloc ?_ _)) hb)
    replace B_c := Lib.hid (B_c.out.later (by repeat' (first | exact Below.refl _ _ | refine below_alloc ?_ _)) hb)
    replace B_s := Lib.hid (B_s.out.later (by repeat' (first | exact Below.refl _ _ | refine below_alloc ?_ _)) hb)
    replace B_t := Lib.hid (B_t.out.later (by repeat' (first | exact Below.refl _ _ | refine below_alloc ?_ _)) hb)
    replace B_u := Lib.hid (B_u.out.later (by repeat' (first | exact Below.refl _ _ | refine below_alloc ?_ _)) hb)
    replace B_x := Lib.hid (B_x.out.later (by repeat' (first | exact Below.refl _ _ | refine below_alloc ?_ _)) hb)
    replace B_y := Lib.hid (B_y.out.later (by repeat' (first | exact Below.refl _ _ | refine below_alloc ?_ _)) hb)
    replace B_v := Lib.hid (B_v.out.later (by repeat' (first | exact Below.refl _ _ | refine below_alloc ?_ _)) hb)
    replace B_p := Lib.hid (B_p.out.later (by repeat' (first | exact Below.refl _ _ | refine below_alloc ?_ _)) hb)
    replace B_q := Lib.hid (B_q.out.later (by repeat' (first | exact Below.refl _ _ | refine below_alloc ?_ _)) hb)
    replace B_r := Lib.hid (B_r.out.later (by repeat' (first | exact Below.refl _ _ | refine below_alloc ?_ _)) hb)
    replace B_d := Lib.hid (B_d.out.later (by repeat' (first | exact Below.refl _ _ | refine below_alloc ?_ _)) hb)
    replace B_z := Lib.hid (B_z.out.later (by repeat' (first | exact Below.refl _ _ | refine below_alloc ?_ _)) hb)
    have B_n := Lib.hid (Boxed3.later (Boxed3.new w15 (Dz.s) a_n_ n_n_ c_n_ (Dz.e) 24 (g := w15.heap.size) (by simp)) (by repeat' (first | exact Below.refl _ _ | refine below_alloc ?_ _)) hb)
    clear s0 s1 s2 d0 d1 d2
    replace HS := Lib.hid (HS.out.num (by repeat' (first | exact Below.refl _ _ | refine below_alloc ?_ _)) hb h0)
    have L_k_ := Lib.hid h0.1
    clear hb h0
    obtain ⟨a0, a1, a2, _, _, _⟩ := id ((B_a.out).alloc (.cells #[.bool (Dk.s), .slice a_k_ n_k_ c_k_, .int .i64 (Dk.e)] 24))
    go_wp2_with fail
    refine (dMul_v sa sa ea ea Dl 0 (hT.below (below_step HS.out.1 (by repeat' (first | exact Below.refl _ _ | refine below_alloc ?_ _)))) (HS.out.get 13 rfl (by repeat' (first | exact Below.refl _ _ | refine below_alloc ?_ _))) (HS.out.get 13 rfl (by repeat' (first | exact Below.refl _ _ | refine below_alloc ?_ _))) rfl rfl (by have := HLn.out; have := HAA.out; omega) (by have ha := HA.out.1; subst ha; exact O_l.out.1)).mono ?_
    rintro e w17 ⟨a_l_, n_l_, c_l_, rfl, h0, hb⟩
    replace B_a := Lib.hid (B_a.out.later (by repeat' (first | exact Below.refl _ _ | refine below_alloc ?_ _)) hb)
    replace B_b := Lib.hid (B_b.out.later (by repeat' (first | exact Below.refl _ _ | refine below_alloc ?_ _)) hb)
    replace B_c := Lib.hid (B_c.out.later (by repeat' (first | exact Below.refl _ _ | refine below_alloc ?_ _)) hb)
    replace B_s := Lib.hid (B_s.out.later (by repeat' (first | exact Below.refl _ _ | refine below_alloc ?_ _)) hb)
    replace B_t := Lib.hid (B_t.out.later (by repeat' (first | exact Below.refl _ _ | refine below_alloc ?_ _)) hb)
    replace B_u := Lib.hid (B_u.out.later (by repeat' (first | exact Below.refl _ _ | refine below_alloc ?_ _)) hb)
    replace B_x := Lib.hid (B_x.out.later (by repeat' (first | exact Below.refl _ _ | refine below_alloc ?_ _)) hb)
    replace B_y := Lib.hid (B_y.out.later (by repeat' (first | exact Below.refl _ _ | refine below_alloc ?_ _)) hb)
    replace B_v := Lib.hid (B_v.out.later (by repeat' (first | exact Below.refl _ _ | refine below_alloc ?_ _)) hb)
    replace B_p := Lib.hid (B_p.out.later (by repeat' (first | exact Below.refl _ _ | refine below_alloc ?_ _)) hb)
    replace B_q := Lib.hid (B_q.out.later (by repeat' (first | exact Below.refl _ _ | refine below_alloc ?_ _)) hb)
    replace B_r := Lib.hid (B_r.out.later (by repeat' (first | exact Below.refl _ _ | refine below_alloc ?_ _)) hb)
    replace B_d := Lib.hid (B_d.out.later (by repeat' (first | exact Below.refl _ _ | refine below_alloc ?_ _)) hb)
    replace B_z := Lib.hid (B_z.out.later (by repeat' (first | exact Below.refl _ _ | refine below_alloc ?_ _)) hb)
    replace B_n := Lib.hid (B_n.out.later (by repeat' (first | exact Below.refl _ _ | refine below_alloc ?_ _)) hb)
    have B_k := Lib.hid (Boxed3.later (Boxed3.new w16 (Dk.s) a_k_ n_k_ c_k_ (Dk.e) 24 (g := w16.heap.size) (by simp)) (by repeat' (first | exact Below.refl _ _ | refine below_alloc ?_ _)) hb)
    clear a0 a1 a2
    replace HS := Lib.hid (HS.out.num (by repeat' (first | exact Below.refl _ _ | refine below_alloc ?_ _)) hb h0)
    have L_l_ := Lib.hid h0.1
    clear hb h0
    obtain ⟨b0, b1, b2, _, _, _⟩ := id ((B_b.out).alloc (.cells #[.bool (Dl.s), .slice a_l_ n_l_ c_l_, .int .i64 (Dl.e)] 24))
    go_wp2_with fail
    refine (dMul_v sb sb eb eb Dm 0 (hT.below (below_step HS.out.1 (by repeat' (first | exact Below.refl _ _ | refine below_alloc ?_ _)))) (HS.out.get 15 rfl (by repeat' (first | exact Below.refl _ _ | refine below_alloc ?_ _))) (HS.out.get 15 rfl (by repeat' (first | exact Below.refl _ _ | refine below_alloc ?_ _))) rfl rfl (by have := HLn.out; have := HAA.out; omega) (by have hb := HA.out.2.1; subst hb; exact O_m.out.1)).mono ?_
    rintro e w18 ⟨a_m_, n_m_, c_m_, rfl, h0, hb⟩
    replace B_a := Lib.hid (B_a.out.later (by repeat' (first | exact Below.refl _ _ | refine below_alloc ?_ _)) hb)
    replace B_b := Lib.hid (B_b.out.later (by repeat' (first | exact Below.refl _ _ | refine below_alloc ?_ _)) hb)
    replace B_c := Lib.hid (B_c.out.later (by repeat' (first | exact Below.refl _ _ | refine below_alloc ?_ _)) hb)
    replace B_s := Lib.hid (B_s.out.later (by repeat' (first | exact Below.refl _ _ | refine below_alloc ?_ _)) hb)
    replace B_t := Lib.hid (B_t.out.later (by repeat' (first | exact Below.refl _ _ | refine below_alloc ?_ _)) hb)
    replace B_u := Lib.hid (B_u.out.later (by repeat' (first | exact Below.refl _ _ | refine below_alloc ?_ _)) hb)
    replace B_x := Lib.hid (B_x.out.later (by repeat' (first | exact Below.refl _ _ | refine below_alloc ?_ _)) hb)
    replace B_y := Lib.hid (B_y.out.later (by repeat' (first | exact Below.refl _ _ | refine below_alloc ?_ _)) hb)
    replace B_v := Lib.hid (B_v.out.later (by repeat' (first | exact Below.refl _ _ | refine below_alloc ?_ _)) hb)
    replace B_p := Lib.hid (B_p.out.later (by repeat' (first | exact Below.refl _ _ | refine below_alloc ?_ _)) hb)
    replace B_q := Lib.hid (B_q.out.later (by repeat' (first | exact Below.refl _ _ | refine below_alloc ?_ _)) hb)
    replace B_r := Lib.hid (B_r.out.later (by repeat' (first | exact Below.refl _ _ | refine below_alloc ?_ _)) hb)
    replace B_d := Lib.hid (B_d.out.later (by repeat' (first | exact Below.refl _ _ | refine below_alloc ?_ _)) hb)
    replace B_z := Lib.hid (B_z.out.later (by repeat' (first | exact Below.refl _ _ | refine below_alloc ?_ _)) hb)
    replace B_n := Lib.hid (B_n.out.later (by repeat' (first | exact Below.refl _ _ | refine below_alloc ?_ _)) hb)
    replace B_k := Lib.hid (B_k.out.later (by repeat' (first | exact Below.refl _ _ | refine below_alloc ?_ _)) hb)
    have B_l := Lib.hid (Boxed3.later (Boxed3.new w17 (Dl.s) a_l_ n_l_ c_l_ (Dl.e) 24 (g := w17.heap.size) (by simp)) (by repeat' (first | exact Below.refl _ _ | refine below_alloc ?_ _)) hb)
    clear b0 b1 b2
    replace HS := Lib.hid (HS.out.num (by repeat' (first | exact Below.refl _ _ | refine below_alloc ?_ _)) hb h0)
    have L_m_ := Lib.hid h0.1
    clear hb h0
    obtain ⟨l0, l1, l2, _, _, _⟩ := id ((B_l.out).alloc (.cells #[.bool (Dm.s), .slice a_m_ n_m_ c_m_, .int .i64 (Dm.e)] 24))
    go_wp2_with fail
    refine (dSub_v Dl.s Dm.s Dl.e Dm.e Do 0 (hT.below (below_step HS.out.1 (by repeat' (first | exact Below.refl _ _ | refine below_alloc ?_ _)))) (HS.out.get 1 rfl (by repeat' (first | exact Below.refl _ _ | refine below_alloc ?_ _))) (HS.out.get 0 rfl (by repeat' (first | exact Below.refl _ _ | refine below_alloc ?_ _))) (valL_limbs _) (valL_limbs _) (by have := HLn.out; have := HAA.out; omega) O_o.out.2.1 O_o.out.1).mono ?_
    rintro e w19 ⟨a_o_, n_o_, c_o_, rfl, h0, hb⟩
    replace B_a := Lib.hid (B_a.out.later (by repeat' (first | exact Below.refl _ _ | refine below_alloc ?_ _)) hb)
    replace B_b := Lib.hid (B_b.out.later (by repeat' (first | exact Below.refl _ _ | refine below_alloc ?_ _)) hb)
    replace B_c := Lib.hid (B_c.out.later (by repeat' (first | exact Below.refl _ _ | refine below_alloc ?_ _)) hb)
    replace B_s := Lib.hid (B_s.out.later (by repeat' (first | exact Below.refl _ _ | refine below_alloc ?_ _)) hb)
    replace B_t := Lib.hid (B_t.out.later (by repeat' (first | exact Below.refl _ _ | refine below_alloc ?_ _)) hb)
    replace B_u := Lib.hid (B_u.out.later (by repeat' (first | exact Below.refl _ _ | refine below_alloc ?_ _)) hb)
    replace B_x := Lib.hid (B_x.out.later (by repeat' (first | exact Below.refl _ _ | refine below_alloc ?_ _)) hb)
    replace B_y := Lib.hid (B_y.out.later (by repeat' (first | exact Below.refl _ _ | refine below_alloc ?_ _)) hb)
    replace B_v := Lib.hid (B_v.out.later (by repeat' (first | exact Below.refl _ _ | refine below_alloc ?_ _)) hb)
    replace B_p := Lib.hid (B_p.out.later (by repeat' (first | exact Below.refl _ _ | refine below_alloc ?_ _)) hb)
    replace B_q := Lib.hid (B_q.out.later (by repeat' (first | exact Below.refl _ _ | refine below_alloc ?_ _)) hb)
    replace B_r := Lib.hid (B_r.out.later (by repeat' (first | exact Below.refl _ _ | refine below_alloc ?_ _)) hb)
    replace B_d := Lib.hid (B_d.out.later (by repeat' (first | exact Below.refl _ _ | refine below_alloc ?_ _)) hb)
    replace B_z := Lib.hid (B_z.out.later (by repeat' (first | exact Below.refl _ _ | refine below_alloc ?_ _)) hb)
    replace B_n := Lib.hid (B_n.out.later (by repeat' (first | exact Below.refl _ _ | refine below_alloc ?_ _)) hb)
    replace B_k := Lib.hid (B_k.out.later (by repeat' (first | exact Below.refl _ _ | refine below_alloc ?_ _)) hb)
    replace B_l := Lib.hid (B_l.out.later (by repeat' (first | exact Below.refl _ _ | refine below_alloc ?_ _)) hb)
    have B_m := Lib.hid (Boxed3.later (Boxed3.new w18 (Dm.s) a_m_ n_m_ c_m_ (Dm.e) 24 (g := w18.heap.size) (by simp)) (by repeat' (first | exact Below.refl _ _ | refine below_alloc ?_ _)) hb)
    clear l0 l1 l2
    replace HS := Lib.hid (HS.out.num (by repeat' (first | exact Below.refl _ _ | refine below_alloc ?_ _)) hb h0)
    have L_o_ := Lib.hid h0.1
    clear hb h0
    obtain ⟨s0, s1, s2, _, _, _⟩ := id ((B_s.out).alloc (.cells #[.bool (Do.s), .slice a_o_ n_o_ c_o_, .int .i64 (Do.e)] 24))
    obtain ⟨t0, t1, t2, _, _, _⟩ := id ((B_t.out).alloc (.cells #[.bool (Do.s), .slice a_o_ n_o_ c_o_, .int .i64 (Do.e)] 24))
    go_wp2_with fail
    refine (rsame_eq (HS.out.get 15 rfl (by repeat' (first | exact Below.refl _ _ | refine below_alloc ?_ _))) (HS.out.get 14 rfl (by repeat' (first | exact Below.refl _ _ | refine below_alloc ?_ _))) HI.out.1 (by have := HLn.out; have := HAA.out; omega)).mono ?_
    rintro e w20 ⟨rfl, hb⟩
    replace B_a := Lib.hid (B_a.out.later (by repeat' (first | exact Below.refl _ _ | refine below_alloc ?_ _)) hb)
    replace B_b := Lib.hid (B_b.out.later (by repeat' (first | exact Below.refl _ _ | refine below_alloc ?_ _)) hb)
    replace B_c := Lib.hid (B_c.out.later (by repeat' (first | exact Below.refl _ _ | refine below_alloc ?_ _)) hb)
    replace B_s := Lib.hid (B_s.out.later (by repeat' (first | exact Below.refl _ _ | refine below_alloc ?_ _)) hb)
    replace B_t := Lib.hid (B_t.out.later (by repeat' (first | exact Below.refl _ _ | refine below_alloc ?_ _)) hb)
    replace B_u := Lib.hid (B_u.out.later (by repeat' (first | exact Below.refl _ _ | refine below_alloc ?_ _)) hb)
    replace B_x := Lib.hid (B_x.out.later (by repeat' (first | exact Below.refl _ _ | refine below_alloc ?_ _)) hb)
    replace B_y := Lib.hid (B_y.out.later (by repeat' (first | exact Below.refl _ _ | refine below_alloc ?_ _)) hb)
    replace B_v := Lib.hid (B_v.out.later (by repeat' (first | exact Below.refl _ _ | refine below_alloc ?_ _)) hb)
    replace B_p := Lib.hid (B_p.out.later (by repeat' (first | exact Below.refl _ _ | refine below_alloc ?_ _)) hb)
    replace B_q := Lib.hid (B_q.out.later (by repeat' (first | exact Below.refl _ _ | refine below_alloc ?_ _)) hb)
    replace B_r := Lib.hid (B_r.out.later (by repeat' (first | exact Below.refl _ _ | refine below_alloc ?_ _)) hb)
    replace B_d := Lib.hid (B_d.out.later (by repeat' (first | exact Below.refl _ _ | refine below_alloc ?_ _)) hb)
    replace B_z := Lib.hid (B_z.out.later (by repeat' (first | exact Below.refl _ _ | refine below_alloc ?_ _)) hb)
    replace B_n := Lib.hid (B_n.out.later (by repeat' (first | exact Below.refl _ _ | refine below_alloc ?_ _)) hb)
    replace B_k := Lib.hid (B_k.out.later (by repeat' (first | exact Below.refl _ _ | refine below_alloc ?_ _)) hb)
    replace B_l := Lib.hid (B_l.out.later (by repeat' (first | exact Below.refl _ _ | refine below_alloc ?_ _)) hb)
    replace B_m := Lib.hid (B_m.out.later (by repeat' (first | exact Below.refl _ _ | refine below_alloc ?_ _)) hb)
    have B_o := Lib.hid (Boxed3.later (Boxed3.new w19 (Do.s) a_o_ n_o_ c_o_ (Do.e) 24 (g := w19.heap.size) (by simp)) (by repeat' (first | exact Below.refl _ _ | refine below_alloc ?_ _)) hb)
    clear s0 s1 s2 t0 t1 t2
    replace HS := Lib.hid (HS.out.call (by repeat' (first | exact Below.refl _ _ | refine below_alloc ?_ _)) hb)
    clear hb
    obtain ⟨u0, u1, u2, _, _, _⟩ := id (B_u.out)
    obtain ⟨v0, v1, v2, _, _, _⟩ := id (B_v.out)
    go_wp2_with fail
    refine (rsame_eq (HS.out.get 13 rfl (by repeat' (first | exact Below.refl _ _ | refine below_alloc ?_ _))) (HS.out.get 10 rfl (by repeat' (first | exact Below.refl _ _ | refine below_alloc ?_ _))) HI.out.2.1 (by have := HLn.out; have := HAA.out; omega)).mono ?_
    rintro e w21 ⟨rfl, hb⟩
    replace B_a := Lib.hid (B_a.out.later (by repeat' (first | exact Below.refl _ _ | refine below_alloc ?_ _)) hb)
    replace B_b := Lib.hid (B_b.out.later (by repeat' (first | exact Below.refl _ _ | refine below_alloc ?_ _)) hb)
    replace B_c := Lib.hid (B_c.out.later (by repeat' (first | exact Below.refl _ _ | refine below_alloc ?_ _)) hb)
    replace B_s := Lib.hid (B_s.out.later (by repeat' (first | exact Below.refl _ _ | refine below_alloc ?_ _)) hb)
    replace B_t := Lib.hid (B_t.out.later (by repeat' (first | exact Below.refl _ _ | refine below_alloc ?_ _)) hb)
    replace B_u := Lib.hid (B_u.out.later (by repeat' (first | exact Below.refl _ _ | refine below_alloc ?_ _)) hb)
    replace B_x := Lib.hid (B_x.out.later (by repeat' (first | exact Below.refl _ _ | refine below_alloc ?_ _)) hb)
    replace B_y := Lib.hid (B_y.out.later (by repeat' (first | exact Below.refl _ _ | refine below_alloc ?_ _)) hb)
    replace B_v := Lib.hid (B_v.out.later (by repeat' (first | exact Below.refl _ _ | refine below_alloc ?_ _)) hb)
    replace B_p := Lib.hid (B_p.out.later (by repeat' (first | exact Below.refl _ _ | refine below_alloc ?_ _)) hb)
    replace B_q := Lib.hid (B_q.out.later (by repeat' (first | exact Below.refl _ _ | refine below_alloc ?_ _)) hb)
    replace B_r := Lib.hid (B_r.out.later (by repeat' (first | exact Below.refl _ _ | refine below_alloc ?_ _)) hb)
    replace B_d := Lib.hid (B_d.out.later (by repeat' (first | exact Below.refl _ _ | refine below_alloc ?_ _)) hb)
    replace B_z := Lib.hid (B_z.out.later (by repeat' (first | exact Below.refl _ _ | refine below_alloc ?_ _)) hb)
    replace B_n := Lib.hid (B_n.out.later (by repeat' (first | exact Below.refl _ _ | refine below_alloc ?_ _)) hb)
    replace B_k := Lib.hid (B_k.out.later (by repeat' (first | exact Below.refl _ _ | refine below_alloc ?_ _)) hb)
    replace B_l := Lib.hid (B_l.out.later (by repeat' (first | exact Below.refl _ _ | refine below_alloc ?_ _)) hb)
    replace B_m := Lib.hid (B_m.out.later (by repeat' (first | exact Below.refl _ _ | refine below_alloc ?_ _)) hb)
    replace B_o := Lib.hid (B_o.out.later (by repeat' (first | exact Below.refl _ _ | refine below_alloc ?_ _)) hb)
    clear u0 u1 u2 v0 v1 v2
    replace HS := Lib.hid (HS.out.call (by repeat' (first | exact Below.refl _ _ | refine below_alloc ?_ _)) hb)
    clear hb
    obtain ⟨p0, p1, p2, _, _, _⟩ := id (B_p.out)
    obtain ⟨r0, r1, r2, _, _, _⟩ := id (B_r.out)
    go_wp2_with fail
    refine (rsame_eq (HS.out.get 9 rfl (by repeat' (first | exact Below.refl _ _ | refine below_alloc ?_ _))) (HS.out.get 7 rfl (by repeat' (first | exact Below.refl _ _ | refine below_alloc ?_ _))) HI.out.2.2.1 (by have := HLn.out; have := HAA.out; omega)).mono ?_
    rintro e w22 ⟨rfl, hb⟩
    replace B_a := Lib.hid (B_a.out.later (by repeat' (first | exact Below.refl _ _ | refine below_alloc ?_ _)) hb)
    replace B_b := Lib.hid (B_b.out.later (by repeat' (first | exact Below.refl _ _ | refine below_alloc ?_ _)) hb)
    replace B_c := Lib.hid (B_c.out.later (by repeat' (first | exact Below.refl _ _ | refine below_alloc ?_ _)) hb)
    replace B_s := Lib.hid (B_s.out.later (by repeat' (first | exact Below.refl _ _ | refine below_alloc ?_ _)) hb)
    replace B_t := Lib.hid (B_t.out.later (by repeat' (first | exact Below.refl _ _ | refine below_alloc ?_ _)) hb)
    replace B_u := Lib.hid (B_u.out.later (by repeat' (first | exact Below.refl _ _ | refine below_alloc ?_ _)) hb)
    replace B_x := Lib.hid (B_x.out.later (by repeat' (first | exact Below.refl _ _ | refine below_alloc ?_ _)) hb)
    replace B_y := Lib.hid (B_y.out.later (by repeat' (first | exact Below.refl _ _ | refine below_alloc ?_ _)) hb)
    replace B_v := Lib.hid (B_v.out.later (by repeat' (first | exact Below.refl _ _ | refine below_alloc ?_ _)) hb)
    replace B_p := Lib.hid (B_p.out.later (by repeat' (first | exact Below.refl _ _ | refine below_alloc ?_ _)) hb)
    replace B_q := Lib.hid (B_q.out.later (by repeat' (first | exact Below.refl _ _ | refine below_alloc ?_ _)) hb)
    replace B_r := Lib.hid (B_r.out.later (by repeat' (first | exact Below.refl _ _ | refine below_alloc ?_ _)) hb)
    replace B_d := Lib.hid (B_d.out.later (by repeat' (first | exact Below.refl _ _ | refine below_alloc ?_ _)) hb)
    replace B_z := Lib.hid (B_z.out.later (by repeat' (first | exact Below.refl _ _ | refine below_alloc ?_ _)) hb)
    replace B_n := Lib.hid (B_n.out.later (by repeat' (first | exact Below.refl _ _ | refine below_alloc ?_ _)) hb)
    replace B_k := Lib.hid (B_k.out.later (by repeat' (first | exact Below.refl _ _ | refine below_alloc ?_ _)) hb)
    replace B_l := Lib.hid (B_l.out.later (by repeat' (first | exact Below.refl _ _ | refine below_alloc ?_ _)) hb)
    replace B_m := Lib.hid (B_m.out.later (by repeat' (first | exact Below.refl _ _ | refine below_alloc ?_ _)) hb)
    replace B_o := Lib.hid (B_o.out.later (by repeat' (first | exact Below.refl _ _ | refine below_alloc ?_ _)) hb)
    clear p0 p1 p2 r0 r1 r2
    replace HS := Lib.hid (HS.out.call (by repeat' (first | exact Below.refl _ _ | refine below_alloc ?_ _)) hb)
    clear hb
    obtain ⟨d0, d1, d2, _, _, _⟩ := id (B_d.out)
    go_wp2_with fail
    refine (dSign_v Dd.s Dd.e Z (hT.below (below_step HS.out.1 (by repeat' (first | exact Below.refl _ _ | refine below_alloc ?_ _)))) (HS.out.get 6 rfl (by repeat' (first | exact Below.refl _ _ | refine below_alloc ?_ _))) (valL_limbs _) (by have := HLn.out; have := HAA.out; omega) HI.out.2.2.2.2.2.1).mono ?_
    rintro e w23 ⟨rfl, hb⟩
    replace B_a := Lib.hid (B_a.out.later (by repeat' (first | exact Below.refl _ _ | refine below_alloc ?_ _)) hb)
    replace B_b := Lib.hid (B_b.out.later (by repeat' (first | exact Below.refl _ _ | refine below_alloc ?_ _)) hb)
    replace B_c := Lib.hid (B_c.out.later (by repeat' (first | exact Below.refl _ _ | refine below_alloc ?_ _)) hb)
    replace B_s := Lib.hid (B_s.out.later (by repeat' (first | exact Below.refl _ _ | refine below_alloc ?_ _)) hb)
    replace B_t := Lib.hid (B_t.out.later (by repeat' (first | exact Below.refl _ _ | refine below_alloc ?_ _)) hb)
    replace B_u := Lib.hid (B_u.out.later (by repeat' (first | exact Below.refl _ _ | refine below_alloc ?_ _)) hb)
    replace B_x := Lib.hid (B_x.out.later (by repeat' (first | exact Below.refl _ _ | refine below_alloc ?_ _)) hb)
    replace B_y := Lib.hid (B_y.out.later (by repeat' (first | exact Below.refl _ _ | refine below_alloc ?_ _)) hb)
    replace B_v := Lib.hid (B_v.out.later (by repeat' (first | exact Below.refl _ _ | refine below_alloc ?_ _)) hb)
    replace B_p := Lib.hid (B_p.out.later (by repeat' (first | exact Below.refl _ _ | refine below_alloc ?_ _)) hb)
    replace B_q := Lib.hid (B_q.out.later (by repeat' (first | exact Below.refl _ _ | refine below_alloc ?_ _)) hb)
    replace B_r := Lib.hid (B_r.out.later (by repeat' (first | exact Below.refl _ _ | refine below_alloc ?_ _)) hb)
    replace B_d := Lib.hid (B_d.out.later (by repeat' (first | exact Below.refl _ _ | refine below_alloc ?_ _)) hb)
    replace B_z := Lib.hid (B_z.out.later (by repeat' (first | exact Below.refl _ _ | refine below_alloc ?_ _)) hb)
    replace B_n := Lib.hid (B_n.out.later (by repeat' (first | exact Below.refl _ _ | refine below_alloc ?_ _)) hb)
    replace B_k := Lib.hid (B_k.out.later (by repeat' (first | exact Below.refl _ _ | refine below_alloc ?_ _)) hb)
    replace B_l := Lib.hid (B_l.out.later (by repeat' (first | exact Below.refl _ _ | refine below_alloc ?_ _)) hb)
    replace B_m := Lib.hid (B_m.out.later (by repeat' (first | exact Below.refl _ _ | refine below_alloc ?_ _)) hb)
    replace B_o := Lib.hid (B_o.out.later (by repeat' (first | exact Below.refl _ _ | refine below_alloc ?_ _)) hb)
    clear d0 d1 d2
    replace HS := Lib.hid (HS.out.call (by repeat' (first | exact Below.refl _ _ | refine below_alloc ?_ _)) hb)
    clear hb
    obtain ⟨z0, z1, z2, _, _, _⟩ := id (B_z.out)
    obtain ⟨n0, n1, n2, _, _, _⟩ := id (B_n.out)
    go_wp2_with fail
    refine (rsame_eq (HS.out.get 5 rfl (by repeat' (first | exact Below.refl _ _ | refine below_alloc ?_ _))) (HS.out.get 4 rfl (by repeat' (first | exact Below.refl _ _ | refine below_alloc ?_ _))) rfl (by have := HLn.out; have := HAA.out; omega)).mono ?_
    rintro e w24 ⟨rfl, hb⟩
    replace B_a := Lib.hid (B_a.out.later (by repeat' (first | exact Below.refl _ _ | refine below_alloc ?_ _)) hb)
    replace B_b := Lib.hid (B_b.out.later (by repeat' (first | exact Below.refl _ _ | refine below_alloc ?_ _)) hb)
    replace B_c := Lib.hid (B_c.out.later (by repeat' (first | exact Below.refl _ _ | refine below_alloc ?_ _)) hb)
    replace B_s := Lib.hid (B_s.out.later (by repeat' (first | exact Below.refl _ _ | refine below_alloc ?_ _)) hb)
    replace B_t := Lib.hid (B_t.out.later (by repeat' (first | exact Below.refl _ _ | refine below_alloc ?_ _)) hb)
    replace B_u := Lib.hid (B_u.out.later (by repeat' (first | exact Below.refl _ _ | refine below_alloc ?_ _)) hb)
    replace B_x := Lib.hid (B_x.out.later (by repeat' (first | exact Below.refl _ _ | refine below_alloc ?_ _)) hb)
    replace B_y := Lib.hid (B_y.out.later (by repeat' (first | exact Below.refl _ _ | refine below_alloc ?_ _)) hb)
    replace B_v := Lib.hid (B_v.out.later (by repeat' (first | exact Below.refl _ _ | refine below_alloc ?_ _)) hb)
    replace B_p := Lib.hid (B_p.out.later (by repeat' (first | exact Below.refl _ _ | refine below_alloc ?_ _)) hb)
    replace B_q := Lib.hid (B_q.out.later (by repeat' (first | exact Below.refl _ _ | refine below_alloc ?_ _)) hb)
    replace B_r := Lib.hid (B_r.out.later (by repeat' (first | exact Below.refl _ _ | refine below_alloc ?_ _)) hb)
    replace B_d := Lib.hid (B_d.out.later (by repeat' (first | exact Below.refl _ _ | refine below_alloc ?_ _)) hb)
    replace B_z := Lib.hid (B_z.out.later (by repeat' (first | exact Below.refl _ _ | refine below_alloc ?_ _)) hb)
    replace B_n := Lib.hid (B_n.out.later (by repeat' (first | exact Below.refl _ _ | refine below_alloc ?_ _)) hb)
    replace B_k := Lib.hid (B_k.out.later (by repeat' (first | exact Below.refl _ _ | refine below_alloc ?_ _)) hb)
    replace B_l := Lib.hid (B_l.out.later (by repeat' (first | exact Below.refl _ _ | refine below_alloc ?_ _)) hb)
    replace B_m := Lib.hid (B_m.out.later (by repeat' (first | exact Below.refl _ _ | refine below_alloc ?_ _)) hb)
    replace B_o := Lib.hid (B_o.out.later (by repeat' (first | exact Below.refl _ _ | refine below_alloc ?_ _)) hb)
    clear z0 z1 z2 n0 n1 n2
    replace HS := Lib.hid (HS.out.call (by repeat' (first | exact Below.refl _ _ | refine below_alloc ?_ _)) hb)
    clear hb
    obtain ⟨k0, k1, k2, _, _, _⟩ := id (B_k.out)
    obtain ⟨o0, o1, o2, _, _, _⟩ := id (B_o.out)
    go_wp2_with fail
    refine (rsame_eq (HS.out.get 3 rfl (by repeat' (first | exact Below.refl _ _ | refine below_alloc ?_ _))) (HS.out.get 0 rfl (by repeat' (first | exact Below.refl _ _ | refine below_alloc ?_ _))) HI.out.2.2.2.1 (by have := HLn.out; have := HAA.out; omega)).mono ?_
    rintro e w25 ⟨rfl, hb⟩
    replace B_a := Lib.hid (B_a.out.later (by repeat' (first | exact Below.refl _ _ | refine below_alloc ?_ _)) hb)
    replace B_b := Lib.hid (B_b.out.later (by repeat' (first | exact Below.refl _ _ | refine below_alloc ?_ _)) hb)
    replace B_c := Lib.hid (B_c.out.later (by repeat' (first | exact Below.refl _ _ | refine below_alloc ?_ _)) hb)
    replace B_s := Lib.hid (B_s.out.later (by repeat' (first | exact Below.refl _ _ | refine below_alloc ?_ _)) hb)
    replace B_t := Lib.hid (B_t.out.later (by repeat' (first | exact Below.refl _ _ | refine below_alloc ?_ _)) hb)
    replace B_u := Lib.hid (B_u.out.later (by repeat' (first | exact Below.refl _ _ | refine below_alloc ?_ _)) hb)
    replace B_x := Lib.hid (B_x.out.later (by repeat' (first | exact Below.refl _ _ | refine below_alloc ?_ _)) hb)
    replace B_y := Lib.hid (B_y.out.later (by repeat' (first | exact Below.refl _ _ | refine below_alloc ?_ _)) hb)
    replace B_v := Lib.hid (B_v.out.later (by repeat' (first | exact Below.refl _ _ | refine below_alloc ?_ _)) hb)
    replace B_p := Lib.hid (B_p.out.later (by repeat' (first | exact Below.refl _ _ | refine below_alloc ?_ _)) hb)
    replace B_q := Lib.hid (B_q.out.later (by repeat' (first | exact Below.refl _ _ | refine below_alloc ?_ _)) hb)
    replace B_r := Lib.hid (B_r.out.later (by repeat' (first | exact Below.refl _ _ | refine below_alloc ?_ _)) hb)
    replace B_d := Lib.hid (B_d.out.later (by repeat' (first | exact Below.refl _ _ | refine below_alloc ?_ _)) hb)
    replace B_z := Lib.hid (B_z.out.later (by repeat' (first | exact Below.refl _ _ | refine below_alloc ?_ _)) hb)
    replace B_n := Lib.hid (B_n.out.later (by repeat' (first | exact Below.refl _ _ | refine below_alloc ?_ _)) hb)
    replace B_k := Lib.hid (B_k.out.later (by repeat' (first | exact Below.refl _ _ | refine below_alloc ?_ _)) hb)
    replace B_l := Lib.hid (B_l.out.later (by repeat' (first | exact Below.refl _ _ | refine below_alloc ?_ _)) hb)
    replace B_m := Lib.hid (B_m.out.later (by repeat' (first | exact Below.refl _ _ | refine below_alloc ?_ _)) hb)
    replace B_o := Lib.hid (B_o.out.later (by repeat' (first | exact Below.refl _ _ | refine below_alloc ?_ _)) hb)
    clear k0 k1 k2 o0 o1 o2
    replace HS := Lib.hid (HS.out.call (by repeat' (first | exact Below.refl _ _ | refine below_alloc ?_ _)) hb)
    clear hb
    go_wp2_with fail
    go_ret
    exact ⟨rfl, HS.out.1⟩
end Go.Proofs.YtjlaadadbpffdaaGreatDoor
