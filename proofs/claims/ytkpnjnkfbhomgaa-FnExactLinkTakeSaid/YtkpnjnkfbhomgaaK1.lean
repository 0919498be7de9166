/- The laws' own marks: each cell of a row of plain structs is given a number of its own, and asked for it again. -/
import Derived.Test.YtkpnjnkfbhomgaaS2
import Derived.Test.YtkpnjnkfbhomgaaI1
set_option linter.unusedVariables false
set_option linter.unusedSimpArgs false
namespace Go.Proofs.Ytkpnjnkfbhomgaa
open Go.RowKit
attribute [local go_sem] w_lt_add w_le_of w_le_add max2_i min2_i
theorem LL.tab_self {α : Type} (xs : List α) (d : α) : LL.tab xs.length (fun i => xs.getD i d) = xs := by
  apply List.ext_getElem?
  intro i
  by_cases h : i < xs.length <;> simp [LL.tab, h, List.getD_eq_getElem?_getD]
/-- the first j are new -/
def LL.mix {α : Type} (f : Nat → α) (xs : List α) (d : α) (j i : Nat) : α := if i < j then f i else xs.getD i d
theorem LL.mix_zero {α : Type} (f : Nat → α) (xs : List α) (d : α) : LL.tab xs.length (LL.mix f xs d 0) = xs := by
  rw [← LL.tab_self xs d]; simp only [LL.tab_len]; exact LL.tab_congr fun i hi => by simp [LL.mix, LL.tab, List.getD_eq_getElem?_getD, hi]
theorem LL.mix_all {α : Type} (f : Nat → α) (xs : List α) (d : α) : LL.tab xs.length (LL.mix f xs d xs.length) = LL.tab xs.length f := LL.tab_congr fun i hi => if_pos hi
theorem LL.mix_set {α : Type} (f : Nat → α) (xs : List α) (d : α) (j : Nat) (h : j < xs.length) (x : α) (hx : x = f j) : (LL.tab xs.length (LL.mix f xs d j)).set j x = LL.tab xs.length (LL.mix f xs d (j + 1)) := LL.tab_set h (by rw [hx]; exact if_pos (Nat.lt_succ_self j)) fun i hi _ => by
  unfold LL.mix
  by_cases h1 : i < j
  · rw [if_pos h1, if_pos (by omega)]
  · rw [if_neg h1, if_neg (by omega)]
/-- a call has marked a row -/
def MkM {α : Type} (enc : α → List Value) (sz bytes e : Nat) (w : World) (v : Value) (r : Int) (ys : List α) (en : Ending) (w' : World) : Prop := en = .returned (.int .i64 r) ∧ Own enc sz bytes e w' v ys ∧ w.grownBy w' v.ownBlock
theorem Own.setAll {α : Type} {enc : α → List Value} {sz bytes e : Nat} {w : World} {g n c : Nat} {xs : List α} (h : Own enc sz bytes e w (.slice (some ⟨g, 0, none⟩) n c) xs) (E : EncOk enc sz) (hn : xs.length = n) (k : Nat) (hk : k < n) (d x' : α) : Own enc sz bytes e (w.setCells g (k * sz) (enc x')) (.slice (some ⟨g, 0, none⟩) n c) (xs.set k x') ∧ w.grownBy (w.setCells g (k * sz) (enc x')) (some g) := by
  subst hn
  obtain ⟨hrow, hg⟩ := ownsRow_setCells (enc x') (k * sz + 0) h.row
  rw [flat_setMany E xs k 0 d x' (enc x') hk (by rw [E.len]; omega) (by rw [List.take_zero, List.nil_append, List.drop_eq_nil_of_le (by rw [E.len, E.len]; omega), List.append_nil])] at hrow
  exact ⟨⟨by rw [List.length_set]; exact hrow, by rw [List.length_set]; exact h.room⟩, hg⟩
theorem Own.someA {α : Type} {enc : α → List Value} {sz bytes e : Nat} {w : World} {A : Option Addr} {n c : Nat} {xs : List α} (h : Own enc sz bytes e w (.slice A n c) xs) (hn : 0 < xs.length) : ∃ g, A = some ⟨g, 0, none⟩ := by
  obtain ⟨g, cap, e1, _⟩ := h.form hn
  injection e1 with e1
  exact ⟨g, e1⟩
theorem Own.unfrozen {α : Type} {enc : α → List Value} {sz bytes e : Nat} {w : World} {g n c : Nat} {xs : List α} (h : Own enc sz bytes e w (.slice (some ⟨g, 0, none⟩) n c) xs) (hn : 0 < xs.length) : (∀ i, w.frozen? ⟨g, i, none⟩ = false) ∧ g < w.heap.size := by
  obtain ⟨g', cap, e1, _, e3, e2⟩ := h.form hn
  injection e1 with e1
  injection e1 with e1
  injection e1 with e1
  subst e1
  exact ⟨e2, e3⟩
def LL.mkIntS (k : Int) (j : Nat) : Int := k + (j : Int)
set_option maxHeartbeats 1000000 in
theorem markIntS_c (xs : List (Int)) (A : Option Addr) (c : Nat) (k : Int) (h0 : 0 ≤ k) (h1 : k ≤ 1125899906842624) (w : World) (hO : Own intC 1 8 3 w (.slice A xs.length c) xs) : Calls Try.prog 99 #[.slice A xs.length c, .int .i64 k] w (MkM intC 1 8 3 w (.slice A xs.length c) (k + (xs.length : Int)) (LL.tab xs.length (LL.mkIntS k))) := by
  have hroom := hO.room
  go_enter Try.func99, Try.ntmps99
  go_wp2
  go_loopw [1, 5] (fun kk i wr => ∃ j : Nat, j ≤ xs.length ∧ kk = .int .i64 (k + (j : Int)) ∧ i = .int .i64 j ∧ Own intC 1 8 3 wr (.slice A xs.length c) (LL.tab xs.length (LL.mix (LL.mkIntS k) xs 0 j)) ∧ w.grownBy wr (Value.ownBlock (.slice A xs.length c))) (fun _ i _ => xs.length - (intOf i).toNat)
  case atStart => exact ⟨0, Nat.zero_le _, by go_num, rfl, by rw [LL.mix_zero]; exact hO, World.grownBy.refl _ _⟩
  case round =>
    clear hO
    obtain ⟨j, hj, rfl, rfl, hO, hb⟩ := hrel
    by_cases hlt : j < xs.length
    · obtain ⟨g, rfl⟩ := hO.someA (by rw [LL.tab_len]; omega)
      have hR := (hO.rd_at intE (LL.tab_len _ _)).S1 j hlt
      simp only [Nat.zero_add] at hR
      have c0 := hR
      obtain ⟨f0, hgl⟩ := hO.unfrozen (by rw [LL.tab_len]; omega)
      go_wp2
      have H := hO.setAll intE (LL.tab_len _ _) j hlt 0 (LL.mkIntS k j)
      rw [LL.mix_set _ _ _ _ hlt _ rfl] at H
      rw [Nat.mul_one] at H
      go_roundw
      case rel => exact ⟨j + 1, by omega, by go_num, by go_num, H.1, World.grownBy.trans hb H.2⟩
      case measure => simp [intOf]; omega
    · obtain rfl : j = xs.length := by omega
      rw [LL.mix_all] at hO
      go_wp2
      go_ret
      exact ⟨rfl, hO, hb⟩
set_option maxHeartbeats 1000000 in
theorem heldIntS_c (n : Nat) (A : Option Addr) (c : Nat) (k : Int) (h0 : 0 ≤ k) (h1 : k ≤ 1125899906842624) (w : World) (hR : Rd intC 1 8 w A n c (LL.tab n (LL.mkIntS k))) : Calls Try.prog 100 #[.slice A n c, .int .i64 k] w fun e w' => e = .returned (.int .i64 (k + (n : Int))) ∧ w = w' := by
  have hroom := hR.room
  go_enter Try.func100, Try.ntmps100
  go_wp2
  go_loop [1, 5] (fun kk i => ∃ j : Nat, j ≤ n ∧ kk = .int .i64 (k + (j : Int)) ∧ i = .int .i64 j) (fun _ i => n - (intOf i).toNat)
  case atStart => exact ⟨0, Nat.zero_le _, by go_num, rfl⟩
  case round =>
    obtain ⟨j, hj, rfl, rfl⟩ := hrel
    by_cases hlt : j < n
    · obtain ⟨g, off, rfl, hgl⟩ := hR.addr (by omega)
      have hS := hR.S1 j hlt
      simp only [LL.nthI, LL.tab_getD hlt, LL.mkIntS] at hS
      have c0 := hS
      go_wp2
      go_round
      case rel => exact ⟨j + 1, by omega, by go_num, by go_num⟩
      case measure => simp [intOf]; omega
    · obtain rfl : j = n := by omega
      go_wp2
      go_ret
      exact ⟨rfl, rfl⟩
def LL.mkFlyStepS (k : Int) (j : Nat) : LL.Step := ⟨k + 7 * (j : Int), k + 7 * (j : Int) + 1, k + 7 * (j : Int) + 1 + 1, k + 7 * (j : Int) + 1 + 1 + 1, k + 7 * (j : Int) + 1 + 1 + 1 + 1, k + 7 * (j : Int) + 1 + 1 + 1 + 1 + 1, ((k + 7 * (j : Int) + 1 + 1 + 1 + 1 + 1 + 1) % 3 == 0)⟩
set_option maxHeartbeats 1000000 in
theorem markFlyStepS_c (xs : List (LL.Step)) (A : Option Addr) (c : Nat) (k : Int) (h0 : 0 ≤ k) (h1 : k ≤ 1125899906842624) (w : World) (hO : Own stepC 7 56 146 w (.slice A xs.length c) xs) : Calls Try.prog 102 #[.slice A xs.length c, .int .i64 k] w (MkM stepC 7 56 146 w (.slice A xs.length c) (k + 7 * (xs.length : Int)) (LL.tab xs.length (LL.mkFlyStepS k))) := by
  have hroom := hO.room
  go_enter Try.func102, Try.ntmps102
  go_wp2
  go_loopw [1, 5] (fun kk i wr => ∃ j : Nat, j ≤ xs.length ∧ kk = .int .i64 (k + 7 * (j : Int)) ∧ i = .int .i64 j ∧ Own stepC 7 56 146 wr (.slice A xs.length c) (LL.tab xs.length (LL.mix (LL.mkFlyStepS k) xs LL.z0 j)) ∧ w.grownBy wr (Value.ownBlock (.slice A xs.length c))) (fun _ i _ => xs.length - (intOf i).toNat)
  case atStart => exact ⟨0, Nat.zero_le _, by go_num, rfl, by rw [LL.mix_zero]; exact hO, World.grownBy.refl _ _⟩
  case round =>
    clear hO
    obtain ⟨j, hj, rfl, rfl, hO, hb⟩ := hrel
    by_cases hlt : j < xs.length
    · obtain ⟨g, rfl⟩ := hO.someA (by rw [LL.tab_len]; omega)
      have hR := (hO.rd_at stepE (LL.tab_len _ _)).S7 j hlt
      simp only [Nat.zero_add] at hR
      obtain ⟨c0, c1, c2, c3, c4, c5, c6⟩ := hR
      obtain ⟨f0, hgl⟩ := hO.unfrozen (by rw [LL.tab_len]; omega)
      go_wp2
      have H := hO.setAll stepE (LL.tab_len _ _) j hlt LL.z0 (LL.mkFlyStepS k j)
      rw [LL.mix_set _ _ _ _ hlt _ rfl] at H
      go_roundw
      case rel => exact ⟨j + 1, by omega, by go_num, by go_num, H.1, World.grownBy.trans hb H.2⟩
      case measure => simp [intOf]; omega
    · obtain rfl : j = xs.length := by omega
      rw [LL.mix_all] at hO
      go_wp2
      go_ret
      exact ⟨rfl, hO, hb⟩
set_option maxHeartbeats 1000000 in
theorem heldFlyStepS_c (n : Nat) (A : Option Addr) (c : Nat) (k : Int) (h0 : 0 ≤ k) (h1 : k ≤ 1125899906842624) (w : World) (hR : Rd stepC 7 56 w A n c (LL.tab n (LL.mkFlyStepS k))) : Calls Try.prog 116 #[.slice A n c, .int .i64 k] w fun e w' => e = .returned (.int .i64 (k + 7 * (n : Int))) ∧ w = w' := by
  have hroom := hR.room
  go_enter Try.func116, Try.ntmps116
  go_wp2
  go_loop [1, 5] (fun kk i => ∃ j : Nat, j ≤ n ∧ kk = .int .i64 (k + 7 * (j : Int)) ∧ i = .int .i64 j) (fun _ i => n - (intOf i).toNat)
  case atStart => exact ⟨0, Nat.zero_le _, by go_num, rfl⟩
  case round =>
    obtain ⟨j, hj, rfl, rfl⟩ := hrel
    by_cases hlt : j < n
    · obtain ⟨g, off, rfl, hgl⟩ := hR.addr (by omega)
      have hS := hR.S7 j hlt
      simp only [LL.nth, LL.tab_getD hlt, LL.mkFlyStepS] at hS
      obtain ⟨c0, c1, c2, c3, c4, c5, c6⟩ := hS
      go_wp2
      go_round
      case rel => exact ⟨j + 1, by omega, by go_num, by go_num⟩
      case measure => simp [intOf]; omega
    · obtain rfl : j = n := by omega
      go_wp2
      go_ret
      exact ⟨rfl, rfl⟩
end Go.Proofs.Ytkpnjnkfbhomgaa
