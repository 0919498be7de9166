/- Rows of tubes that are ok together: ProbeSkyOk of the program and of the reference. -/
import Derived.Test.YtoakjmdjkhhfbaaV1
import Derived.Test.YtoakjmdjkhhfbaaG
set_option linter.unusedVariables false
set_option linter.unusedSimpArgs false
namespace Go.Proofs.Ytoakjmdjkhhfbaa
open Go.RowKit
attribute [local go_sem] w_lt_add w_le_of w_le_add max2_i min2_i
theorem str_geq (t : TypeId) (a b : ByteArray) : binOp .geq t (.string a) (.string b) = pure (.bool !(Op.bytesLess a.toList b.toList)) := by simp [binOp, Op.stringOp]
attribute [local go_sem] str_geq
namespace LL
def sLt (a b : ByteArray) : Bool := Op.bytesLess a.toList b.toList
def EntOk (ts : List Tu) (k : Nat) : Prop := TubeOk (nthT ts k).s (nthT ts k).xs ∧ (0 < k → sLt (nthT ts (k - 1)).s (nthT ts k).s = true)
def SkyOk (ts : List Tu) : Prop := ts.length ≤ 24 ∧ ∀ k, k < ts.length → EntOk ts k
instance (ts : List Tu) (k : Nat) : Decidable (EntOk ts k) := inferInstanceAs (Decidable (_ ∧ _))
instance (ts : List Tu) : Decidable (SkyOk ts) := inferInstanceAs (Decidable (_ ∧ _))
theorem SkyOk_md {us ts : List Tu} (h : md us = md ts) : SkyOk us ↔ SkyOk ts := by
  have hl : us.length = ts.length := by rw [← md_len us, h, md_len]
  have he : ∀ k, k < ts.length → (EntOk us k ↔ EntOk ts k) := fun k hk => by
    obtain ⟨a1, a2⟩ := md_eq h k hk
    obtain ⟨b1, b2⟩ := md_eq h (k - 1) (by omega)
    unfold EntOk; rw [a1, a2, b1]
  unfold SkyOk
  rw [hl]
  exact and_congr_right fun _ => forall_congr' fun k => forall_congr' fun hk => he k hk
end LL
theorem impl_tube_is (s : ByteArray) (xs : List LL.Box) (A : Option Addr) (c : Nat) (hs : s.size ≤ 9223372036854775807) (w : World) (h : RdB w A xs.length c xs) (t : Bool) (ht : decide (LL.TubeOk s xs) = t) : Calls Try.prog 71 #[.agg #[.string s, .slice A xs.length c]] w fun e w' => e = .returned (.bool t) ∧ Below w.heap.size w w' := ht ▸ impl_ProbeTubeOk_c s xs A c hs w h
theorem spec_tube_is (s : ByteArray) (xs : List LL.Box) (A : Option Addr) (c : Nat) (hs : s.size ≤ 9223372036854775807) (w : World) (h : RdB w A xs.length c xs) (t : Bool) (ht : decide (LL.TubeOk s xs) = t) : Calls Try.prog 70 #[.agg #[.string s, .slice A xs.length c]] w fun e w' => e = .returned (.bool t) ∧ Below w.heap.size w w' := ht ▸ spec_ProbeTubeOk_c s xs A c hs w h
set_option maxRecDepth 100000 in
set_option maxHeartbeats 2000000 in
theorem impl_ProbeSkyOk_c (ts : List LL.Tu) (A : Option Addr) (c : Nat) (hz : ∀ k, k < ts.length → (LL.nthT ts k).s.size ≤ 9223372036854775807) (w : World) (h : RdT w A ts.length c ts) : Calls Try.prog 18 #[.slice A ts.length c] w fun e w' => e = .returned (.bool (decide (LL.SkyOk ts))) ∧ Below w.heap.size w w' := by
  have hroom := h.row.room
  by_cases hn : ts.length ≤ 24
  · go_enter Try.func18, Try.ntmps18
    go_wp2_with fail
    go_loopw [10] (fun i wr => ∃ k : Nat, k ≤ ts.length ∧ i = .int .i64 k ∧ (∀ j, j < k → LL.EntOk ts j) ∧ Below w.heap.size w wr) (fun i _ => ts.length - (intOf i).toNat)
    case atStart => exact ⟨0, Nat.zero_le _, rfl, fun j hj => absurd hj (by omega), (by repeat' (first | with_reducible exact Below.refl _ _ | with_reducible assumption | with_reducible refine b_alloc ?_ _ | with_reducible refine b_drewN ?_ _ | with_reducible refine b_drew ?_ | with_reducible refine b_set ?_ (by first | (simp only [World.size_setCell, World.size_alloc, World.size_drew]; omega) | (simp; done) | (simp; omega)) _ | with_reducible refine b_step ?_ (by with_reducible assumption)))⟩
    case round =>
      obtain ⟨k, hk, rfl, hs, hb⟩ := hrel
      by_cases hlt : k < ts.length
      · obtain ⟨b, off, rfl, hbw⟩ := h.row.addr (by omega)
        obtain ⟨c0, c1⟩ := h.S2 k hlt
        have r1 := h.el k hlt
        have z1 := hz k hlt
        obtain ⟨gc, gf, gl⟩ := bcell hb
        go_wp2_with fail
        refine wp_name (fun W => Below wr.heap.size wr W ∧ Blk W wr.heap.size #[.string (LL.nthT ts k).s, .slice (LL.nthT ts k).A (LL.nthT ts k).xs.length (LL.nthT ts k).c] 39) ⟨(by repeat' (first | with_reducible exact Below.refl _ _ | with_reducible assumption | with_reducible refine b_alloc ?_ _ | with_reducible refine b_drewN ?_ _ | with_reducible refine b_drew ?_ | with_reducible refine b_set ?_ (by first | (simp only [World.size_setCell, World.size_alloc, World.size_drew]; omega) | (simp; done) | (simp; omega)) _ | with_reducible refine b_step ?_ (by with_reducible assumption))), Blk.new _ _ _⟩ ?_
        rintro W3 ⟨hE, kX⟩
        replace hb := b_step hb hE
        clear hE gc gf gl
        obtain ⟨gc, gf, gl⟩ := bcell hb
        generalize wr.heap.size = gx at *
        obtain ⟨ekX, fkX, lkX⟩ := kX.cells
        by_cases hT : LL.TubeOk (LL.nthT ts k).s (LL.nthT ts k).xs
        · have hT1 : decide (LL.TubeOk (LL.nthT ts k).s (LL.nthT ts k).xs) = true := by simpa using hT
          rcases k with _ | j
          · ((refine calm_b (by kernel_rfl) (by kernel_rfl) ?_); (repeat (first | ((apply sure_cons (hg := rfl)); (focus ((intro w' hS'); (obtain ⟨hcS, hfS, hlS⟩ := bcell hS'); (try simp only [World.size_setCell, World.size_alloc, World.size_drew] at hS' hcS hfS hlS); (go_simp); (try go_bits); (try ((first | rw [if_pos (by omega)] | rw [if_neg (by omega)]); go_simp)); (first | (with_reducible rfl) | (with_reducible exact rfl) | (with_reducible exact ⟨rfl, hS'⟩) | (first | (go_at_call 71; go_loud (refine (impl_tube_is _ _ _ _ z1 _ (r1.mono (b_step hb hS')) true hT1).mono ?_); rintro e w'' ⟨rfl, hb⟩; (first | (subst hb; exact ⟨rfl, hS'⟩) | exact ⟨rfl, b_to hS' hb (by first | exact Nat.le_refl _ | (have h1 := hS'.size; (try simp only [World.size_setCell, World.size_alloc, World.size_drew] at h1); omega))⟩)))))); (simp only [Act.put, List.setIfInBounds_toArray, List.set_cons_zero, List.set_cons_succ])) | ((apply sure_off (hg := rfl)); (simp only [Act.put, List.setIfInBounds_toArray, List.set_cons_zero, List.set_cons_succ])))); (refine sure_nil ?_))
            intro W8 hS8
            go_wp2_with fail
            go_roundw
            case rel => exact ⟨1, by omega, by go_num, fun j hj => by obtain rfl : j = 0 := (by omega); exact ⟨hT, fun h9 => absurd h9 (by omega)⟩, b_step hb hS8⟩
            case measure => simp [intOf]; omega
          · obtain ⟨d0, d1⟩ := h.S2 j (by omega)
            have g0 : decide ((0 : Int) < ((j + 1 : Nat) : Int)) = true := by simp
            have g1 : decide ((0 : Int) < (j : Int) + 1) = true := by (first | (simp; done) | (simp; omega))
            have g2 : decide (0 < j + 1) = true := by simp
            by_cases hL : Op.bytesLess (LL.nthT ts j).s.toList (LL.nthT ts (j + 1)).s.toList = true
            · ((refine calm_b (by kernel_rfl) (by kernel_rfl) ?_); (repeat (first | ((apply sure_cons (hg := rfl)); (focus ((intro w' hS'); (obtain ⟨hcS, hfS, hlS⟩ := bcell hS'); (try simp only [World.size_setCell, World.size_alloc, World.size_drew] at hS' hcS hfS hlS); (go_simp); (try go_bits); (try ((first | rw [if_pos (by omega)] | rw [if_neg (by omega)]); go_simp)); (first | (with_reducible rfl) | (with_reducible exact rfl) | (with_reducible exact ⟨rfl, hS'⟩) | (first | (go_at_call 71; go_loud (refine (impl_tube_is _ _ _ _ z1 _ (r1.mono (b_step hb hS')) true hT1).mono ?_); rintro e w'' ⟨rfl, hb⟩; (first | (subst hb; exact ⟨rfl, hS'⟩) | exact ⟨rfl, b_to hS' hb (by first | exact Nat.le_refl _ | (have h1 := hS'.size; (try simp only [World.size_setCell, World.size_alloc, World.size_drew] at h1); omega))⟩)))))); (simp only [Act.put, List.setIfInBounds_toArray, List.set_cons_zero, List.set_cons_succ])) | ((apply sure_off (hg := rfl)); (simp only [Act.put, List.setIfInBounds_toArray, List.set_cons_zero, List.set_cons_succ])))); (refine sure_nil ?_))
              intro W8 hS8
              go_wp2_with fail
              go_roundw
              case rel => exact ⟨j + 1 + 1, by omega, by go_num, fun i hi => by rcases Nat.lt_succ_iff_lt_or_eq.1 hi with h9 | h9; exact hs i h9; subst h9; exact ⟨hT, fun _ => hL⟩, b_step hb hS8⟩
              case measure => simp [intOf]; omega
            · have hL1 : Op.bytesLess (LL.nthT ts j).s.toList (LL.nthT ts (j + 1)).s.toList = false := by simpa using hL
              ((refine calm_b (by kernel_rfl) (by kernel_rfl) ?_); (repeat (first | ((apply sure_cons (hg := rfl)); (focus ((intro w' hS'); (obtain ⟨hcS, hfS, hlS⟩ := bcell hS'); (try simp only [World.size_setCell, World.size_alloc, World.size_drew] at hS' hcS hfS hlS); (go_simp); (try go_bits); (try ((first | rw [if_pos (by omega)] | rw [if_neg (by omega)]); go_simp)); (first | (with_reducible rfl) | (with_reducible exact rfl) | (with_reducible exact ⟨rfl, hS'⟩) | (first | (go_at_call 71; go_loud (refine (impl_tube_is _ _ _ _ z1 _ (r1.mono (b_step hb hS')) true hT1).mono ?_); rintro e w'' ⟨rfl, hb⟩; (first | (subst hb; exact ⟨rfl, hS'⟩) | exact ⟨rfl, b_to hS' hb (by first | exact Nat.le_refl _ | (have h1 := hS'.size; (try simp only [World.size_setCell, World.size_alloc, World.size_drew] at h1); omega))⟩)))))); (simp only [Act.put, List.setIfInBounds_toArray, List.set_cons_zero, List.set_cons_succ])) | ((apply sure_off (hg := rfl)); (simp only [Act.put, List.setIfInBounds_toArray, List.set_cons_zero, List.set_cons_succ])))); (refine sure_nil ?_))
              intro W8 hS8
              go_wp2_with fail
              go_ret
              exact ⟨rd_ (iff_of_false (fun h9 => hL ((h9.2 (j + 1) hlt).2 (by omega))) (by simp)), b_step hb hS8⟩
        · have hT1 : decide (LL.TubeOk (LL.nthT ts k).s (LL.nthT ts k).xs) = false := by simpa using hT
          ((refine calm_b (by kernel_rfl) (by kernel_rfl) ?_); (repeat (first | ((apply sure_cons (hg := rfl)); (focus ((intro w' hS'); (obtain ⟨hcS, hfS, hlS⟩ := bcell hS'); (try simp only [World.size_setCell, World.size_alloc, World.size_drew] at hS' hcS hfS hlS); (go_simp); (try go_bits); (try ((first | rw [if_pos (by omega)] | rw [if_neg (by omega)]); go_simp)); (first | (with_reducible rfl) | (with_reducible exact rfl) | (with_reducible exact ⟨rfl, hS'⟩) | (first | (go_at_call 71; go_loud (refine (impl_tube_is _ _ _ _ z1 _ (r1.mono (b_step hb hS')) false hT1).mono ?_); rintro e w'' ⟨rfl, hb⟩; (first | (subst hb; exact ⟨rfl, hS'⟩) | exact ⟨rfl, b_to hS' hb (by first | exact Nat.le_refl _ | (have h1 := hS'.size; (try simp only [World.size_setCell, World.size_alloc, World.size_drew] at h1); omega))⟩)))))); (simp only [Act.put, List.setIfInBounds_toArray, List.set_cons_zero, List.set_cons_succ])) | ((apply sure_off (hg := rfl)); (simp only [Act.put, List.setIfInBounds_toArray, List.set_cons_zero, List.set_cons_succ])))); (refine sure_nil ?_))
          intro W8 hS8
          go_wp2_with fail
          go_ret
          exact ⟨rd_ (iff_of_false (fun h9 => hT (h9.2 k hlt).1) (by simp)), b_step hb hS8⟩
      · obtain rfl : k = ts.length := by omega
        go_wp2_with fail
        go_ret
        exact ⟨rd_ (iff_of_true ⟨hn, hs⟩ rfl), hb⟩
  · go_enter Try.func18, Try.ntmps18
    go_wp2_with fail
    go_ret
    exact ⟨rd_ (iff_of_false (fun h9 => hn h9.1) (by simp)), (by repeat' (first | with_reducible exact Below.refl _ _ | with_reducible assumption | with_reducible refine b_alloc ?_ _ | with_reducible refine b_drewN ?_ _ | with_reducible refine b_drew ?_ | with_reducible refine b_set ?_ (by first | (simp only [World.size_setCell, World.size_alloc, World.size_drew]; omega) | (simp; done) | (simp; omega)) _ | with_reducible refine b_step ?_ (by with_reducible assumption)))⟩
set_option maxRecDepth 100000 in
set_option maxHeartbeats 2000000 in
theorem spec_ProbeSkyOk_c (ts : List LL.Tu) (A : Option Addr) (c : Nat) (hz : ∀ k, k < ts.length → (LL.nthT ts k).s.size ≤ 9223372036854775807) (w : World) (h : RdT w A ts.length c ts) : Calls Try.prog 16 #[.slice A ts.length c] w fun e w' => e = .returned (.bool (decide (LL.SkyOk ts))) ∧ Below w.heap.size w w' := by
  have hroom := h.row.room
  by_cases hn : ts.length ≤ 24
  · go_enter Try.func16, Try.ntmps16
    go_wp2_with fail
    go_loopw [3] (fun i wr => ∃ k : Nat, k ≤ ts.length ∧ i = .int .i64 k ∧ (∀ j, j < k → LL.EntOk ts j) ∧ Below w.heap.size w wr) (fun i _ => ts.length - (intOf i).toNat)
    case atStart => exact ⟨0, Nat.zero_le _, rfl, fun j hj => absurd hj (by omega), (by repeat' (first | with_reducible exact Below.refl _ _ | with_reducible assumption | with_reducible refine b_alloc ?_ _ | with_reducible refine b_drewN ?_ _ | with_reducible refine b_drew ?_ | with_reducible refine b_set ?_ (by first | (simp only [World.size_setCell, World.size_alloc, World.size_drew]; omega) | (simp; done) | (simp; omega)) _ | with_reducible refine b_step ?_ (by with_reducible assumption)))⟩
    case round =>
      obtain ⟨k, hk, rfl, hs, hb⟩ := hrel
      by_cases hlt : k < ts.length
      · obtain ⟨b, off, rfl, hbw⟩ := h.row.addr (by omega)
        obtain ⟨c0, c1⟩ := h.S2 k hlt
        have r1 := h.el k hlt
        have z1 := hz k hlt
        obtain ⟨gc, gf, gl⟩ := bcell hb
        go_wp2_with fail
        by_cases hT : LL.TubeOk (LL.nthT ts k).s (LL.nthT ts k).xs
        · have hT1 : decide (LL.TubeOk (LL.nthT ts k).s (LL.nthT ts k).xs) = true := by simpa using hT
          rcases k with _ | j
          · simp only [Nat.zero_mul, Nat.zero_add, Nat.add_zero] at c0 c1
            ((refine calm_b (by kernel_rfl) (by kernel_rfl) ?_); (repeat (first | ((apply sure_cons (hg := rfl)); (focus ((intro w' hS'); (obtain ⟨hcS, hfS, hlS⟩ := bcell hS'); (try simp only [World.size_setCell, World.size_alloc, World.size_drew] at hS' hcS hfS hlS); (go_simp); (try go_bits); (try ((first | rw [if_pos (by omega)] | rw [if_neg (by omega)]); go_simp)); (first | (with_reducible rfl) | (with_reducible exact rfl) | (with_reducible exact ⟨rfl, hS'⟩) | (first | (go_at_call 70; go_loud (refine (spec_tube_is _ _ _ _ z1 _ (r1.mono (b_step hb hS')) true hT1).mono ?_); rintro e w'' ⟨rfl, hb⟩; (first | (subst hb; exact ⟨rfl, hS'⟩) | exact ⟨rfl, b_to hS' hb (by first | exact Nat.le_refl _ | (have h1 := hS'.size; (try simp only [World.size_setCell, World.size_alloc, World.size_drew] at h1); omega))⟩)))))); (simp only [Act.put, List.setIfInBounds_toArray, List.set_cons_zero, List.set_cons_succ])) | ((apply sure_off (hg := rfl)); (simp only [Act.put, List.setIfInBounds_toArray, List.set_cons_zero, List.set_cons_succ])))); (refine sure_nil ?_))
            intro W8 hS8
            go_wp2_with fail
            go_roundw
            case rel => exact ⟨1, by omega, by go_num, fun j hj => by obtain rfl : j = 0 := (by omega); exact ⟨hT, fun h9 => absurd h9 (by omega)⟩, b_step hb hS8⟩
            case measure => simp [intOf]; omega
          · obtain ⟨d0, d1⟩ := h.S2 j (by omega)
            have g0 : decide ((0 : Int) < ((j + 1 : Nat) : Int)) = true := by simp
            have g1 : decide ((0 : Int) < (j : Int) + 1) = true := by (first | (simp; done) | (simp; omega))
            have g2 : decide (0 < j + 1) = true := by simp
            by_cases hL : Op.bytesLess (LL.nthT ts j).s.toList (LL.nthT ts (j + 1)).s.toList = true
            · ((refine calm_b (by kernel_rfl) (by kernel_rfl) ?_); (repeat (first | ((apply sure_cons (hg := rfl)); (focus ((intro w' hS'); (obtain ⟨hcS, hfS, hlS⟩ := bcell hS'); (try simp only [World.size_setCell, World.size_alloc, World.size_drew] at hS' hcS hfS hlS); (go_simp); (try go_bits); (try ((first | rw [if_pos (by omega)] | rw [if_neg (by omega)]); go_simp)); (first | (with_reducible rfl) | (with_reducible exact rfl) | (with_reducible exact ⟨rfl, hS'⟩) | (first | (go_at_call 70; go_loud (refine (spec_tube_is _ _ _ _ z1 _ (r1.mono (b_step hb hS')) true hT1).mono ?_); rintro e w'' ⟨rfl, hb⟩; (first | (subst hb; exact ⟨rfl, hS'⟩) | exact ⟨rfl, b_to hS' hb (by first | exact Nat.le_refl _ | (have h1 := hS'.size; (try simp only [World.size_setCell, World.size_alloc, World.size_drew] at h1); omega))⟩)))))); (simp only [Act.put, List.setIfInBounds_toArray, List.set_cons_zero, List.set_cons_succ])) | ((apply sure_off (hg := rfl)); (simp only [Act.put, List.setIfInBounds_toArray, List.set_cons_zero, List.set_cons_succ])))); (refine sure_nil ?_))
              intro W8 hS8
              go_wp2_with fail
              go_roundw
              case rel => exact ⟨j + 1 + 1, by omega, by go_num, fun i hi => by rcases Nat.lt_succ_iff_lt_or_eq.1 hi with h9 | h9; exact hs i h9; subst h9; exact ⟨hT, fun _ => hL⟩, b_step hb hS8⟩
              case measure => simp [intOf]; omega
            · have hL1 : Op.bytesLess (LL.nthT ts j).s.toList (LL.nthT ts (j + 1)).s.toList = false := by simpa using hL
              ((refine calm_b (by kernel_rfl) (by kernel_rfl) ?_); (repeat (first | ((apply sure_cons (hg := rfl)); (focus ((intro w' hS'); (obtain ⟨hcS, hfS, hlS⟩ := bcell hS'); (try simp only [World.size_setCell, World.size_alloc, World.size_drew] at hS' hcS hfS hlS); (go_simp); (try go_bits); (try ((first | rw [if_pos (by omega)] | rw [if_neg (by omega)]); go_simp)); (first | (with_reducible rfl) | (with_reducible exact rfl) | (with_reducible exact ⟨rfl, hS'⟩) | (first | (go_at_call 70; go_loud (refine (spec_tube_is _ _ _ _ z1 _ (r1.mono (b_step hb hS')) true hT1).mono ?_); rintro e w'' ⟨rfl, hb⟩; (first | (subst hb; exact ⟨rfl, hS'⟩) | exact ⟨rfl, b_to hS' hb (by first | exact Nat.le_refl _ | (have h1 := hS'.size; (try simp only [World.size_setCell, World.size_alloc, World.size_drew] at h1); omega))⟩)))))); (simp only [Act.put, List.setIfInBounds_toArray, List.set_cons_zero, List.set_cons_succ])) | ((apply sure_off (hg := rfl)); (simp only [Act.put, List.setIfInBounds_toArray, List.set_cons_zero, List.set_cons_succ])))); (refine sure_nil ?_))
              intro W8 hS8
              go_wp2_with fail
              go_ret
              exact ⟨rd_ (iff_of_false (fun h9 => hL ((h9.2 (j + 1) hlt).2 (by omega))) (by simp)), b_step hb hS8⟩
        · have hT1 : decide (LL.TubeOk (LL.nthT ts k).s (LL.nthT ts k).xs) = false := by simpa using hT
          ((refine calm_b (by kernel_rfl) (by kernel_rfl) ?_); (repeat (first | ((apply sure_cons (hg := rfl)); (focus ((intro w' hS'); (obtain ⟨hcS, hfS, hlS⟩ := bcell hS'); (try simp only [World.size_setCell, World.size_alloc, World.size_drew] at hS' hcS hfS hlS); (go_simp); (try go_bits); (try ((first | rw [if_pos (by omega)] | rw [if_neg (by omega)]); go_simp)); (first | (with_reducible rfl) | (with_reducible exact rfl) | (with_reducible exact ⟨rfl, hS'⟩) | (first | (go_at_call 70; go_loud (refine (spec_tube_is _ _ _ _ z1 _ (r1.mono (b_step hb hS')) false hT1).mono ?_); rintro e w'' ⟨rfl, hb⟩; (first | (subst hb; exact ⟨rfl, hS'⟩) | exact ⟨rfl, b_to hS' hb (by first | exact Nat.le_refl _ | (have h1 := hS'.size; (try simp only [World.size_setCell, World.size_alloc, World.size_drew] at h1); omega))⟩)))))); (simp only [Act.put, List.setIfInBounds_toArray, List.set_cons_zero, List.set_cons_succ])) | ((apply sure_off (hg := rfl)); (simp only [Act.put, List.setIfInBounds_toArray, List.set_cons_zero, List.set_cons_succ])))); (refine sure_nil ?_))
          intro W8 hS8
          go_wp2_with fail
          go_ret
          exact ⟨rd_ (iff_of_false (fun h9 => hT (h9.2 k hlt).1) (by simp)), b_step hb hS8⟩
      · obtain rfl : k = ts.length := by omega
        go_wp2_with fail
        go_ret
        exact ⟨rd_ (iff_of_true ⟨hn, hs⟩ rfl), hb⟩
  · go_enter Try.func16, Try.ntmps16
    go_wp2_with fail
    go_ret
    exact ⟨rd_ (iff_of_false (fun h9 => hn h9.1) (by simp)), (by repeat' (first | with_reducible exact Below.refl _ _ | with_reducible assumption | with_reducible refine b_alloc ?_ _ | with_reducible refine b_drewN ?_ _ | with_reducible refine b_drew ?_ | with_reducible refine b_set ?_ (by first | (simp only [World.size_setCell, World.size_alloc, World.size_drew]; omega) | (simp; done) | (simp; omega)) _ | with_reducible refine b_step ?_ (by with_reducible assumption)))⟩
end Go.Proofs.Ytoakjmdjkhhfbaa
