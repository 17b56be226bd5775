/-
  The reference of layer 2: less10.
-/
import Derived.Test.YtjfjkabmpiebpaaDoorNatZ
set_option linter.unusedSimpArgs false
set_option linter.unusedVariables false
namespace Go.Plumb
theorem less_step (ds qs : List Nat) (k i x rest : Nat) (hk : k ≤ ds.length) (hi : k = i + 1) (hq : qs.length = ds.length - k) (hx : ds.getD i 0 = x) (hv : valH (ds.drop k) = 10 * valH qs + rest) :
    (ds.take k ++ qs).set i ((rest * 4294967296 + x) / 10) = ds.take i ++ ((rest * 4294967296 + x) / 10 :: qs) ∧ valH (ds.drop i) = 10 * valH ((rest * 4294967296 + x) / 10 :: qs) + (rest * 4294967296 + x) % 10 := by
  subst hi
  have hlt : i < ds.length := by omega
  have hxi : ds[i] = x := by rw [← hx]; simp [List.getD, hlt]
  constructor
  · rw [List.take_succ_eq_append_getElem hlt, List.append_assoc, List.set_append_right _ _ (by simp; omega)]
    simp [List.length_take, Nat.min_eq_left (Nat.le_of_lt hlt)]
  · rw [List.drop_eq_getElem_cons hlt, hxi]
    simp only [valH, hv]
    omega
end Go.Plumb
namespace Go.Proofs.YtjfjkabmpiebpaaDoor
open Go.RowKit Go.Plumb

set_option maxHeartbeats 1000000 in
theorem less10_any (a : Option Addr) (c : Nat) (l : List Nat) (w : World) (hA : Arr w a c l) (hl : l.length ≤ 10000) :
    Calls Tryd.prog 68 #[.slice a l.length c] w fun e w' => ∃ v, e = .returned (.tuple #[v, .int .u8 ((valL l % 10 : Nat) : Int)]) ∧ OwnL w' w.heap.size v (limbs (valL l / 10)) ∧ Below w.heap.size w w' := by
  have hC := cut_any a c l w hA (by omega)
  have HV : Hid (valH (cutH l) = valL l ∧ Halves (cutH l)) := Lib.hid ⟨valH_cut l, cutH_halves hA.2.2.1⟩
  have hlen : (cutH l).length ≤ 20000 := by rw [cutH_length]; omega
  obtain ⟨ds, hds⟩ : ∃ ds, cutH l = ds := ⟨_, rfl⟩
  rw [hds] at hC hlen HV
  obtain ⟨nn, hnn⟩ : ∃ n, l.length = n := ⟨_, rfl⟩
  obtain ⟨V, hV⟩ : ∃ V, valL l = V := ⟨_, rfl⟩
  rw [hnn] at hC ⊢
  rw [hV] at HV ⊢
  obtain ⟨t, ht⟩ : ∃ t, V % 10 = t := ⟨_, rfl⟩
  obtain ⟨z, hz⟩ : ∃ z, V / 10 = z := ⟨_, rfl⟩
  rw [ht, hz]
  have HT := Lib.hid ht
  have HZ := Lib.hid hz
  clear hnn hds hA hV ht hz
  go_enter Tryd.func68, Tryd.ntmps68
  go_wp2_with fail
  refine hC.mono ?_
  rintro e w1 ⟨u, rfl, ho, hb⟩
  obtain ⟨ua, uc, rfl⟩ := OwnL.shape ho
  obtain ⟨n, hn⟩ : ∃ n, ds.length = n := ⟨_, rfl⟩
  have HB := Lib.hid hb
  have Hn := Lib.hid hn
  rw [hn] at hlen ho ⊢
  have HO := Lib.hid ho
  clear hC ho hb hn
  go_wp2_with fail
  go_loopw [5, 6] (fun u v wr => ∃ (k rest : Nat) (qs : List Nat), k ≤ n ∧ v = .int .i64 ((k : Int) - 1) ∧ u = .int .u64 (rest : Int) ∧ Hid (rest < 10 ∧ qs.length = n - k ∧ Halves qs ∧ valH (ds.drop k) = 10 * valH qs + rest) ∧ Hid (OwnL wr w.heap.size (.slice ua n uc) (ds.take k ++ qs)) ∧ Hid (Below w.heap.size w wr)) (fun _ v _ => (intOf v + 1).toNat)
  case atStart => exact ⟨n, 0, [], Nat.le_refl _, by go_num, rfl, Lib.hid ⟨by decide, by simp, halves_nil, by rw [List.drop_of_length_le (by rw [Hn.out]; exact Nat.le_refl _)]; rfl⟩, Lib.hid (by rw [List.take_of_length_le (show ds.length ≤ n by rw [Hn.out]; exact Nat.le_refl _), List.append_nil]; exact HO.out), HB⟩
  case round =>
    obtain ⟨k, rest, qs, hk, rfl, rfl, hS, hown, hB⟩ := hrel
    by_cases hz : k = 0
    · subst hz
      have hqn : qs.length = n := by have := hS.out.2.1; omega
      have ho2 := hown.out
      rw [List.take_zero, List.nil_append] at ho2
      have hJ := join_any ua uc qs wr (OwnL.arr' ho2 (halves_limbs hS.out.2.2.1)) hS.out.2.2.1 (by omega)
      rw [hqn] at hJ
      have hv := hS.out.2.2.2
      rw [List.drop_zero, HV.out.1] at hv
      have hrt : rest = t := by have := hS.out.1; have := HT.out; omega
      have HQ : Hid (valH qs = z) := Lib.hid (by have := hS.out.1; have := HZ.out; omega)
      have hrl := hS.out.1
      have fr : (rest : Int) < 10 := by omega
      have HB9 := Lib.hid hB.out
      rw [HQ.out] at hJ
      subst hrt
      clear ho2 hqn hv hrl
      go_wp2_with fail
      refine hJ.mono ?_
      rintro e w10 ⟨v, rfl, ho, hb⟩
      have HO := Lib.hid (OwnL.weaken ho HB9.out.size)
      have HB10 := Lib.hid (below_step HB9.out hb)
      clear hJ ho hb
      go_wp2_with fail
      go_ret2
      exact ⟨v, by first | rfl | go_num, HO.out, HB10.out⟩
    · obtain ⟨i, rfl⟩ : ∃ i, k = i + 1 := ⟨k - 1, by omega⟩
      obtain ⟨x, hx⟩ : ∃ x, ds.getD i 0 = x := ⟨_, rfl⟩
      have hxl : x < 4294967296 := by rw [← hx]; exact halves_get HV.out.2 i
      obtain ⟨S, hSe⟩ : ∃ S, rest * 4294967296 + x = S := ⟨_, rfl⟩
      obtain ⟨q, hq⟩ : ∃ q, S / 10 = q := ⟨_, rfl⟩
      obtain ⟨r, hr⟩ : ∃ r, S % 10 = r := ⟨_, rfl⟩
      have hrl := hS.out.1
      have hst := less_step ds qs (i + 1) i x rest (by rw [Hn.out]; exact hk) rfl (by rw [Hn.out]; exact hS.out.2.1) hx hS.out.2.2.2
      rw [hSe, hq, hr] at hst
      have hlt : i < (ds.take (i + 1) ++ qs).length := by rw [List.length_append, List.length_take, Hn.out]; omega
      have ho2 := hown.out
      have hgx : (ds.take (i + 1) ++ qs)[i]? = some x := by
        rw [List.getElem?_append_left (by rw [List.length_take, Hn.out]; omega), List.getElem?_take_of_lt (by omega), List.getElem?_eq_getElem (by rw [Hn.out]; omega), ← hx]
        simp [List.getD, show i < ds.length by rw [Hn.out]; omega]
      have hlen9 := ho2.len
      obtain ⟨g, cap, e, hgB, -⟩ := OwnL.pos (by rw [hlen9] at ho2; exact ho2) (by omega)
      simp only [Value.slice.injEq] at e
      obtain ⟨rfl, -, -⟩ := e
      have hco := OwnL.cell ho2 i x hgx
      have hfo := OwnL.thaw ho2 i
      have HST := Lib.hid hst
      have hq' : q < 4294967296 := by omega
      have HQ : Hid (q < 4294967296 ∧ r < 10) := Lib.hid ⟨by omega, by omega⟩
      have f1 : IntKind.u64.wrap ((rest : Int) * 4294967296) = (rest : Int) * 4294967296 := by rw [IntKind.wrap_u64]; omega
      have f2 : IntKind.u64.wrap ((rest : Int) * 4294967296 + (x : Int)) = (S : Int) := by rw [IntKind.wrap_u64]; omega
      have f3 : (S : Int).tdiv 10 = (q : Int) := by rw [Int.tdiv_eq_ediv_of_nonneg (by omega)]; omega
      have f4 : (S : Int).tmod 10 = (r : Int) := by rw [Int.tmod_eq_emod_of_nonneg (by omega)]; omega
      have f5 : (S : Int) / 10 = (q : Int) := by omega
      have f6 : (S : Int) % 10 = (r : Int) := by omega
      have f7 : IntKind.u64.wrap (q : Int) = (q : Int) := by rw [IntKind.wrap_u64]; omega
      have f9 : IntKind.u64.wrap (S : Int) = (S : Int) := by rw [IntKind.wrap_u64]; omega
      have f8 : (rest : Int) * 4294967296 + (x : Int) = (S : Int) := by omega
      have fi : (i : Int) < (n : Int) := by omega
      have HK := Lib.hid hk
      clear hst hgx hlen9 hlt hq hr hSe hx hrl hxl hq' hk
      go_wp2_with fail
      go_roundw
      case rel => exact ⟨i, r, q :: qs, by have := HK.out; omega, by go_num, by first | rfl | (simp only [f9, f4]), Lib.hid ⟨HQ.out.2, by have := hS.out.2.1; have := HK.out; simp; omega, fun y hy => by rcases List.mem_cons.1 hy with rfl | hy; exact HQ.out.1; exact hS.out.2.2.1 y hy, HST.out.2⟩, Lib.hid (by rw [← HST.out.1]; exact OwnL.store ho2 i q _ (by first | rfl | (simp only [f9, f3, f7]))), Lib.hid (hB.out.setCell hgB _)⟩
      case measure => simp [intOf] <;> omega
end Go.Proofs.YtjfjkabmpiebpaaDoor
