/- The reference: lists of bits, and which list is shorter. -/
import Derived.Test.YtogdhkecpjndlaaQ6
set_option linter.unusedSimpArgs false
set_option linter.unusedVariables false
namespace Go.Proofs.Ytogdhkecpjndlaa.C
open Go.RowKit
set_option maxRecDepth 100000

def bitsTo (b p : Nat) : List Int := ((List.range p).filter fun p => b.testBit p).map fun (p : Nat) => (p : Int)
theorem bitsTo_succ (b p : Nat) : bitsTo b (p + 1) = if b.testBit p = true then bitsTo b p ++ [(p : Int)] else bitsTo b p := by
  unfold bitsTo
  rw [List.range_succ, List.filter_append, List.map_append]
  cases h : b.testBit p <;> simp [h]
theorem bitsTo_len (b p : Nat) : (bitsTo b p).length ≤ p := by
  unfold bitsTo
  rw [List.length_map]
  have := List.length_filter_le (fun p => b.testBit p) (List.range p)
  simpa using this
theorem bit_of2 : ∀ (b : Fin 64) (k : Fin 6), ((((b.val : Int) / 2 ^ k.val)) % 2 == 1) = b.val.testBit k.val := by decide +kernel
theorem bitsTo_end : ∀ (b : Fin 64) (p : Fin 7), b.val / 2 ^ p.val = 0 → bitsTo b.val p.val = bitsL b.val := by decide +kernel
theorem bits_go : ∀ (b : Fin 64) (p : Fin 7), 0 < b.val / 2 ^ p.val → p.val < 6 := by decide +kernel

set_option maxHeartbeats 4000000 in
theorem Bits_c (b : Nat) (w : World) (hb : b < 64) :
    Calls Try.prog 57 #[.int .i64 b] w fun e w' => (∃ v, e = .returned v ∧ OwnI w.heap.size w' v (bitsL b)) ∧ G w w' := by
  go_enter Try.func57, Try.ntmps57
  go_wp2_with fail
  go_loopw [4, 3] (fun v4 v3 wr => ∃ (p : Nat), p ≤ 6 ∧ v4 = .int .i64 p ∧ Hid (OwnI w.heap.size wr v3 (bitsTo b p)) ∧ G w wr) (fun v4 _ _ => 6 - (intOf v4).toNat)
  case atStart => exact ⟨0, by omega, rfl, OwnI.nil _ _, G.refl _⟩
  case round =>
    obtain ⟨p, hp, rfl, HO, hbr⟩ := hrel
    have hc : ((b : Int) / 2 ^ p) = ((b / 2 ^ p : Nat) : Int) := by rw [Int.natCast_ediv, Int.natCast_pow]; rfl
    by_cases h0 : 0 < b / 2 ^ p
    · have hp6 : p < 6 := bits_go ⟨b, hb⟩ ⟨p, by omega⟩ h0
      have h0i : (0 : Int) < (b : Int) / 2 ^ p := by omega
      have hsh : ((((b : Int) / 2 ^ p)).tmod 2 == 1) = b.testBit p := bit_of ⟨b, hb⟩ ⟨p, hp6⟩
      have hsi : ((((b : Int) / 2 ^ p)) % 2 == 1) = b.testBit p := bit_of2 ⟨b, hb⟩ ⟨p, hp6⟩
      have HS := Lib.hid (bitsTo_succ b p)
      have hlb : (bitsTo b p).length ≤ 100000000 := by have := bitsTo_len b p; omega
      clear hc h0
      cases ht : b.testBit p
      · rw [ht] at hsh hsi
        have HT := Lib.hid ht
        clear ht
        go_wp2_with fail
        go_roundw
        case rel => exact ⟨p + 1, by omega, by go_num, by rw [Hid, HS.out, HT.out]; exact HO.out, hbr⟩
        case measure => simp [intOf] <;> omega
      · rw [ht] at hsh hsi
        have HT := Lib.hid ht
        clear ht
        go_wp2_with (at_builtin; refine app_i w.heap.size rfl _ _ rfl _ _ _ rfl wr.heap.size rfl (newCell _ _ _ _ rfl) (HO.out.grow ((G.refl wr).alloc _)) (by have := hbr.size; simp; omega) hlb ?_; intro v1 w10 hown1 hg1 _)
        have HO2 := Lib.hid hown1
        have hb10 : G w w10 := (hbr.alloc _).grown hg1 (fun j hj => own_base HO.out j hj)
        clear hown1 hg1
        go_wp2_with fail
        go_roundw
        case rel => exact ⟨p + 1, by omega, by go_num, by rw [Hid, HS.out, HT.out]; exact HO2.out, hb10⟩
        case measure => simp [intOf] <;> omega
    · have he : bitsTo b p = bitsL b := bitsTo_end ⟨b, hb⟩ ⟨p, by omega⟩ (Nat.eq_zero_of_not_pos h0)
      rw [he] at HO
      have h0i : ¬ (0 : Int) < (b : Int) / 2 ^ p := by omega
      have h0j : ((0 : Int) < (b : Int) / 2 ^ p) = False := eq_false h0i
      have h0d : decide ((0 : Int) < (b : Int) / 2 ^ p) = false := decide_eq_false h0i
      clear hc h0 he
      go_wp2_with fail
      go_ret
      exact ⟨⟨_, rfl, HO.out⟩, hbr⟩

set_option maxHeartbeats 4000000 in
theorem Before_c {A B : Option Addr} {cA cB : Nat} {xs ys : List Int} {w : World} (hA : RowI w A xs) (hB : RowI w B ys) (hx : xs.length ≤ 100) (hy : ys.length ≤ 100) :
    Calls Try.prog 97 #[.slice A xs.length cA, .slice B ys.length cB] w fun e w' => e = .returned (.bool (beforeB xs ys)) ∧ G w w' := by
  have HA := Lib.hid hA
  have HB := Lib.hid hB
  clear hA hB
  go_enter Try.func97, Try.ntmps97
  go_wp2_with fail
  go_loopw [5] (fun v5 wr => ∃ (k : Nat), k ≤ xs.length ∧ k ≤ ys.length ∧ v5 = .int .i64 k ∧ Hid (beforeB (xs.drop k) (ys.drop k) = beforeB xs ys) ∧ G w wr) (fun v5 _ => xs.length - (intOf v5).toNat)
  case atStart => exact ⟨0, by omega, by omega, rfl, by simp [Hid], G.refl _⟩
  case round =>
    obtain ⟨k, hkx, hky, rfl, HE, hbr⟩ := hrel
    by_cases h1 : k < xs.length
    · by_cases h2 : k < ys.length
      · obtain ⟨b1, o1, rfl, d1⟩ := HA.out.at h1
        obtain ⟨b2, o2, rfl, d2⟩ := HB.out.at h2
        have e1 := hbr.cell d1
        have e2 := hbr.cell d2
        have HD := Lib.hid (show beforeB (xs.drop k) (ys.drop k) = if xs[k] = ys[k] then beforeB (xs.drop (k + 1)) (ys.drop (k + 1)) else decide (xs[k] < ys[k]) by
          rw [List.drop_eq_getElem_cons h1, List.drop_eq_getElem_cons h2, beforeB])
        have HD1 := Lib.hid d1
        have HD2 := Lib.hid d2
        clear d1 d2
        generalize xs[k] = x at *
        generalize ys[k] = y at *
        by_cases hxy : x = y
        · have hn : (x != y) = false := by simp [hxy]
          have HXY := Lib.hid hxy
          clear hxy
          go_wp2_with fail
          go_quiet (fail)
          go_wp2_with fail
          go_roundw
          case rel => exact ⟨k + 1, by omega, by omega, by go_num, by rw [Hid, ← HE.out, HD.out, if_pos HXY.out], hbr.drewN _⟩
          case measure => simp [intOf] <;> omega
        · have hn : (x != y) = true := by simp [hxy]
          have HXY := Lib.hid hxy
          have HV : Hid (beforeB xs ys = decide (x < y)) := by rw [Hid, ← HE.out, HD.out, if_neg HXY.out]
          clear hxy
          go_wp2_with fail
          go_quiet (fail)
          go_wp2_with fail
          have hbq := hbr.drewN nq
          have e1q := hbq.cell HD1.out
          have e2q := hbq.cell HD2.out
          generalize wr.drewN nq = wo at *
          clear e1 e2
          go_quiet (fail)
          go_wp2_with fail
          go_ret
          exact ⟨by rw [HV.out]; rfl, hbq.drewN _⟩
      · have hv : beforeB xs ys = false := by
          rw [← HE.out, List.drop_eq_getElem_cons h1, show ys.drop k = [] from List.drop_of_length_le (by omega)]; rfl
        rw [hv]
        have hl : ¬ (xs.length : Int) < ys.length := by omega
        go_wp2_with fail
        go_ret
        exact ⟨by simp <;> omega, hbr⟩
    · obtain rfl : k = xs.length := by omega
      have hv : beforeB xs ys = decide (xs.length < ys.length) := by
        rw [← HE.out, List.drop_of_length_le (Nat.le_refl _)]
        by_cases h2 : xs.length < ys.length
        · rw [List.drop_eq_getElem_cons h2, beforeB]
          simp <;> omega
        · rw [show ys.drop xs.length = [] from List.drop_of_length_le (by omega), beforeB]
          simp <;> omega
      have HV := Lib.hid hv
      clear hv
      go_wp2_with fail
      go_ret
      exact ⟨by rw [HV.out]; rfl, hbr⟩

set_option maxHeartbeats 4000000 in
theorem Shorter_c {A B : Option Addr} {cA cB : Nat} {xs ys : List Int} {w : World} (hA : RowI w A xs) (hB : RowI w B ys) (hx : xs.length ≤ 100) (hy : ys.length ≤ 100) :
    Calls Try.prog 56 #[.slice A xs.length cA, .slice B ys.length cB] w fun e w' => e = .returned (.bool (shorterB xs ys)) ∧ G w w' := by
  have HA := Lib.hid hA
  have HB := Lib.hid hB
  clear hA hB
  by_cases h1 : xs.length < ys.length
  · have HV := Lib.hid (show shorterB xs ys = true by unfold shorterB; simp [h1])
    go_enter Try.func56, Try.ntmps56
    go_wp2_with fail
    go_ret
    exact ⟨by rw [HV.out]; rfl, G.refl _⟩
  · by_cases h2 : xs.length = ys.length
    · have HV := Lib.hid (show shorterB xs ys = beforeB xs ys by unfold shorterB; simp [h1, h2])
      have hcall := Before_c (cA := cA) (cB := cB) HA.out HB.out hx hy
      have h2b : ((xs.length : Int) == ys.length) = true := by simp [h2]
      have h1d : decide ((xs.length : Int) < ys.length) = false := decide_eq_false (by omega)
      have h1e : ((xs.length : Int) < ys.length) = False := eq_false (by omega)
      clear h2
      go_enter Try.func56, Try.ntmps56
      go_wp2_with fail
      refine hcall.mono ?_
      rintro e w1 ⟨rfl, hb1⟩
      go_wp2_with fail
      go_ret
      exact ⟨by rw [HV.out]; rfl, hb1⟩
    · have HV := Lib.hid (show shorterB xs ys = false by unfold shorterB; simp [h1, h2])
      have h2b : ((xs.length : Int) == ys.length) = false := by simp; omega
      have h1d : decide ((xs.length : Int) < ys.length) = false := decide_eq_false (by omega)
      have h1e : ((xs.length : Int) < ys.length) = False := eq_false (by omega)
      go_enter Try.func56, Try.ntmps56
      go_wp2_with fail
      go_ret
      exact ⟨by rw [HV.out]; rfl, G.refl _⟩
end Go.Proofs.Ytogdhkecpjndlaa.C
