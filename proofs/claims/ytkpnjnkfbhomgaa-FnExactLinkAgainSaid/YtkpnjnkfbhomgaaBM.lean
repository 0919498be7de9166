/- Marks of rows of elements (He). -/
import Derived.Test.YtkpnjnkfbhomgaaA2
import Derived.Test.YtkpnjnkfbhomgaaJD
import Derived.Test.YtkpnjnkfbhomgaaJG
import Derived.Test.YtkpnjnkfbhomgaaJF
set_option linter.unusedVariables false
set_option linter.unusedSimpArgs false
namespace Go.Proofs.Ytkpnjnkfbhomgaa
open Go.RowKit
attribute [local go_sem] w_lt_add w_le_of w_le_add max2_i min2_i
def LL.mkHe (K : Int) (u : LL.He) : LL.He := ⟨LL.txt (K), K + 1, ⟨K + 1 + 1, K + 1 + 1 + 1, LL.tab u.p.steps.length (LL.mkFlyStepS (K + 1 + 1 + 1 + 1)), (K + 1 + 1 + 1 + 1 + 7 * (u.p.steps.length : Int)), (K + 1 + 1 + 1 + 1 + 7 * (u.p.steps.length : Int)) + 1⟩, u.A, u.c, (K + 1 + 1 + 1 + 1 + 7 * (u.p.steps.length : Int)) + 1 + 1, ⟨(K + 1 + 1 + 1 + 1 + 7 * (u.p.steps.length : Int)) + 1 + 1 + 1, (K + 1 + 1 + 1 + 1 + 7 * (u.p.steps.length : Int)) + 1 + 1 + 1 + 1, LL.tab u.n.steps.length (LL.mkFlyStepS ((K + 1 + 1 + 1 + 1 + 7 * (u.p.steps.length : Int)) + 1 + 1 + 1 + 1 + 1)), ((K + 1 + 1 + 1 + 1 + 7 * (u.p.steps.length : Int)) + 1 + 1 + 1 + 1 + 1 + 7 * (u.n.steps.length : Int)), ((K + 1 + 1 + 1 + 1 + 7 * (u.p.steps.length : Int)) + 1 + 1 + 1 + 1 + 1 + 7 * (u.n.steps.length : Int)) + 1⟩, u.B, u.d⟩
def LL.endHe (K : Int) (u : LL.He) : Int := ((K + 1 + 1 + 1 + 1 + 7 * (u.p.steps.length : Int)) + 1 + 1 + 1 + 1 + 1 + 7 * (u.n.steps.length : Int)) + 1 + 1
theorem LL.endHe_eq (K : Int) (u : LL.He) : LL.endHe K u = K + 11 + 7 * (u.p.steps.length : Int) + 7 * (u.n.steps.length : Int) := by unfold LL.endHe; omega
theorem LL.endHe_lt (K : Int) (u : LL.He) : K < LL.endHe K u := by rw [LL.endHe_eq]; omega
def LL.kAtHe (us : List LL.He) (k : Int) : Nat → Int
  | 0 => k
  | j + 1 => LL.endHe (LL.kAtHe us k j) (LL.nthH us j)
theorem LL.kAtHe_mono (us : List LL.He) (k : Int) (i d : Nat) : LL.kAtHe us k i ≤ LL.kAtHe us k (i + d) := by
  induction d with
  | zero => exact Int.le_refl _
  | succ d ih => have := LL.endHe_lt (LL.kAtHe us k (i + d)) (LL.nthH us (i + d)); exact Int.le_trans ih (Int.le_of_lt this)
def LL.mkHeS (us : List LL.He) (k : Int) : List LL.He := LL.tab us.length (fun i => LL.mkHe (LL.kAtHe us k i) (LL.nthH us i))
theorem LL.mkHeS_len (us : List LL.He) (k : Int) : (LL.mkHeS us k).length = us.length := LL.tab_len _ _
theorem fp_mkHe (K : Int) (u : LL.He) (j : Nat) : heL.fp (LL.mkHe K u) j ↔ heL.fp u j := by
  simp only [heL, FpH, LL.mkHe, LL.tab_len]
set_option maxRecDepth 100000 in
set_option maxHeartbeats 8000000 in
theorem markLinkHeldS_c (us : List LL.He) (A : Option Addr) (c : Nat) (k : Int) (h0 : 0 ≤ k) (h1 : LL.kAtHe us k us.length ≤ 1125899906842624) (w : World) (hO : OwnBk w A c us) : Calls Try.prog 71 #[.slice A us.length c, .int .i64 k] w fun e w' => e = .returned (.int .i64 (LL.kAtHe us k us.length)) ∧ OwnBk w' A c (LL.mkHeS us k) ∧ GrownS w w' (FpBk A c us) := by
  have hroom : us.length * 144 ≤ 140737488351232 := hO.row.room
  go_enter Try.func71, Try.ntmps71
  go_wp2
  go_loopw [1, 5] (fun kk i wr => ∃ j : Nat, j ≤ us.length ∧ kk = .int .i64 (LL.kAtHe us k j) ∧ i = .int .i64 j ∧ OwnBk wr A c (LL.tab us.length (LL.mix (fun i => LL.mkHe (LL.kAtHe us k i) (LL.nthH us i)) us LL.he0 j)) ∧ GrownS w wr (FpBk A c us)) (fun _ i _ => us.length - (intOf i).toNat)
  case atStart => exact ⟨0, Nat.zero_le _, rfl, rfl, by rw [LL.mix_zero]; exact hO, GrownS.refl _ _⟩
  case round =>
    clear hO
    obtain ⟨j, hj, rfl, rfl, hO, hG⟩ := hrel
    by_cases hlt : j < us.length
    · have hK0 : 0 ≤ LL.kAtHe us k j := Int.le_trans h0 (by have := LL.kAtHe_mono us k 0 j; rwa [Nat.zero_add] at this)
      have hK1 : LL.endHe (LL.kAtHe us k j) (LL.nthH us j) ≤ 1125899906842624 := Int.le_trans (by have := LL.kAtHe_mono us k (j + 1) (us.length - (j + 1)); rwa [show j + 1 + (us.length - (j + 1)) = us.length by omega] at this) h1
      have hlen : (LL.tab us.length (LL.mix (fun i => LL.mkHe (LL.kAtHe us k i) (LL.nthH us i)) us LL.he0 j)).length = us.length := LL.tab_len _ _
      have hnx : (LL.tab us.length (LL.mix (fun i => LL.mkHe (LL.kAtHe us k i) (LL.nthH us i)) us LL.he0 j)).getD j LL.he0 = LL.nthH us j := by rw [LL.tab_getD hlt]; unfold LL.mix; rw [if_neg (Nat.lt_irrefl _)]; rfl
      have hset := LL.mix_set (fun i => LL.mkHe (LL.kAtHe us k i) (LL.nthH us i)) us LL.he0 j hlt (LL.mkHe (LL.kAtHe us k j) (LL.nthH us j)) rfl
      have hfc := fun j2 => FpR.congr (L := heL) (A := A) (c := c) (us := (LL.tab us.length (LL.mix (fun i => LL.mkHe (LL.kAtHe us k i) (LL.nthH us i)) us LL.he0 j))) (vs := us) hlen (fun i h1 h2 m => by
        have e1 := (LL.tab_getD (d := LL.he0) (f := LL.mix (fun i => LL.mkHe (LL.kAtHe us k i) (LL.nthH us i)) us LL.he0 j) h2)
        rw [List.getD_eq_getElem?_getD, List.getElem?_eq_getElem h1] at e1
        simp only [Option.getD_some] at e1
        rw [e1]; unfold LL.mix; split
        · rw [fp_mkHe]; unfold LL.nthH; rw [List.getD_eq_getElem?_getD, List.getElem?_eq_getElem h2]; rfl
        · rw [List.getD_eq_getElem?_getD, List.getElem?_eq_getElem h2]; rfl) j2
      have hnr : 0 < (LL.tab us.length (LL.mix (fun i => LL.mkHe (LL.kAtHe us k i) (LL.nthH us i)) us LL.he0 j)).length := by rw [hlen]; omega
      obtain ⟨g, rfl⟩ := hO.row.someA hnr
      have Hset := Lib.hid hset; have Hfc := Lib.hid hfc; have Hlen := Lib.hid hlen
      generalize hLj : (LL.tab us.length (LL.mix (fun i => LL.mkHe (LL.kAtHe us k i) (LL.nthH us i)) us LL.he0 j)) = Lj at *
      have HLj := Lib.hid hLj; clear hLj hset hfc hnr
      generalize hKj : LL.kAtHe us k j = K at *
      have HKj := Lib.hid hKj; clear hKj
      have hmem : LL.nthH us j ∈ Lj := by rw [← hnx, List.getD_eq_getElem?_getD, List.getElem?_eq_getElem (by rw [hlen]; exact hlt)]; exact List.getElem_mem _
      have hmu : LL.nthH us j ∈ us := nthH_mem hlt
      have hown := hO.el _ hmem
      have hne := hO.ne _ hmem
      have hrow : Own heC 13 144 97 wr (.slice (some ⟨g, 0, none⟩) Lj.length c) (Lj.set j (Lj.getD j LL.he0)) := hO.row.startE j LL.he0 (by rw [hlen]; exact hlt)
      rw [hnx] at hrow
      rw [hlen] at hrow hne
      have hjn : j < us.length := hlt
      generalize hu : LL.nthH us j = u at *
      have Hu := Lib.hid hu; clear hu
      unfold LL.endHe at hK1
      have hgne : ∀ m, heL.fp u m → m ≠ g := fun m hm h9 => hne m hm (by rw [h9]; rfl)
      have hgl : g < wr.heap.size := (hO.row.row.lt _ rfl).2
      have hfz : ∀ i, wr.frozen? ⟨g, i, none⟩ = false := (hO.row.unfrozen (by rw [hlen]; omega)).1
      have HO := Lib.hid hO; clear hO
      have h_p := hown.p
      have h_n := hown.n
      have hneq := hown.ne
      clear hown
      have hGx : GrownS wr wr (fun m => Value.ownBlock (.slice (some ⟨g, 0, none⟩) us.length c) = some m ∨ heL.fp u m) := GrownS.refl _ _
      have hS : ∀ i x, (heC (⟨u.name, u.number, ⟨u.p.q, u.p.s, u.p.steps, u.p.fr, u.p.by_⟩, u.A, u.c, u.sent, ⟨u.n.q, u.n.s, u.n.steps, u.n.fr, u.n.by_⟩, u.B, u.d⟩ : LL.He))[i]? = some x → wr.cell? ⟨g, j * 13 + i, none⟩ = some x := fun i x hx => Own.cellAt hrow heE Hlen.out hjn i x hx
      have z0 := hS 0 _ rfl
      have z1 := hS 1 _ rfl
      have z2 := hS 2 _ rfl
      have z3 := hS 3 _ rfl
      have z4 := hS 4 _ rfl
      have z5 := hS 5 _ rfl
      have z6 := hS 6 _ rfl
      have z7 := hS 7 _ rfl
      have z8 := hS 8 _ rfl
      have z9 := hS 9 _ rfl
      have z10 := hS 10 _ rfl
      have z11 := hS 11 _ rfl
      have z12 := hS 12 _ rfl
      simp only [Nat.add_zero] at z0
      clear hS
      go_wp2_with fail
      refine calls_name (fun W => GrownS wr W (fun m => m = g) ∧ Own heC 13 144 97 W (.slice (some ⟨g, 0, none⟩) us.length c) (Lj.set j ⟨u.name, u.number, ⟨u.p.q, u.p.s, u.p.steps, u.p.fr, u.p.by_⟩, u.A, u.c, u.sent, ⟨u.n.q, u.n.s, u.n.steps, u.n.fr, u.n.by_⟩, u.B, u.d⟩)) ⟨(by repeat' (first | with_reducible exact GrownS.refl _ _ | with_reducible refine gS_set ?_ (by first | exact rfl | exact Or.inl rfl | exact Or.inr rfl | exact Or.inr (Or.inl rfl) | exact Or.inr (Or.inr rfl)) _ | with_reducible refine gS_drew ?_ | with_reducible refine gS_alloc ?_ _)), by simpa only [Nat.add_zero, Nat.add_assoc, Nat.reduceAdd] using hrow⟩ ?_
      clear hrow z0 z1 z2 z3 z4 z5 z6 z7 z8 z9 z10 z11 z12
      rintro W1 ⟨hg, hrow⟩
      replace h_p := h_p.gS hg (fun m hm h9 => hgne m (.inl hm) h9)
      replace h_n := h_n.gS hg (fun m hm h9 => hgne m (.inr hm) h9)
      replace hGx := hGx.trans (hg.mono fun m h9 => .inl (h9 ▸ rfl))
      have hgl : g < W1.heap.size := Nat.lt_of_lt_of_le hgl hg.size
      have hfz : ∀ i, W1.frozen? ⟨g, i, none⟩ = false := (hrow.unfrozen (by rw [List.length_set]; omega)).1
      clear hg
      refine (markText_c (K) (by omega) (by omega) _).mono ?_
      rintro e W2 ⟨rfl, hB⟩
      replace hrow := hrow.b hB
      replace h_p := h_p.b hB
      replace h_n := h_n.b hB
      replace hGx := hGx.trans (GrownS.below hB)
      have hgl : g < W2.heap.size := Nat.lt_of_lt_of_le hgl hB.size
      have hfz : ∀ i, W2.frozen? ⟨g, i, none⟩ = false := (hrow.unfrozen (by rw [List.length_set]; omega)).1
      clear hB
      have hS : ∀ i x, (heC (⟨u.name, u.number, ⟨u.p.q, u.p.s, u.p.steps, u.p.fr, u.p.by_⟩, u.A, u.c, u.sent, ⟨u.n.q, u.n.s, u.n.steps, u.n.fr, u.n.by_⟩, u.B, u.d⟩ : LL.He))[i]? = some x → W2.cell? ⟨g, j * 13 + i, none⟩ = some x := fun i x hx => Own.cellAt hrow heE Hlen.out hjn i x hx
      have z0 := hS 0 _ rfl
      have z1 := hS 1 _ rfl
      have z2 := hS 2 _ rfl
      have z3 := hS 3 _ rfl
      have z4 := hS 4 _ rfl
      have z5 := hS 5 _ rfl
      have z6 := hS 6 _ rfl
      have z7 := hS 7 _ rfl
      have z8 := hS 8 _ rfl
      have z9 := hS 9 _ rfl
      have z10 := hS 10 _ rfl
      have z11 := hS 11 _ rfl
      have z12 := hS 12 _ rfl
      simp only [Nat.add_zero] at z0
      clear hS
      go_wp2_with fail
      refine calls_name (fun W => GrownS W2 W (fun m => m = g) ∧ Own heC 13 144 97 W (.slice (some ⟨g, 0, none⟩) us.length c) (Lj.set j ⟨LL.txt (K), K + 1, ⟨K + 1 + 1, K + 1 + 1 + 1, u.p.steps, u.p.fr, u.p.by_⟩, u.A, u.c, u.sent, ⟨u.n.q, u.n.s, u.n.steps, u.n.fr, u.n.by_⟩, u.B, u.d⟩)) ⟨(by repeat' (first | with_reducible exact GrownS.refl _ _ | with_reducible refine gS_set ?_ (by first | exact rfl | exact Or.inl rfl | exact Or.inr rfl | exact Or.inr (Or.inl rfl) | exact Or.inr (Or.inr rfl)) _ | with_reducible refine gS_drew ?_ | with_reducible refine gS_alloc ?_ _)), by simpa only [Nat.add_zero, Nat.add_assoc, Nat.reduceAdd] using (Own.cellE (j := 3) (Own.cellE (j := 2) (Own.cellE (j := 1) (Own.cellE (j := 0) hrow (⟨LL.txt (K), u.number, ⟨u.p.q, u.p.s, u.p.steps, u.p.fr, u.p.by_⟩, u.A, u.c, u.sent, ⟨u.n.q, u.n.s, u.n.steps, u.n.fr, u.n.by_⟩, u.B, u.d⟩ : LL.He) heE Hlen.out hjn (by decide) rfl) (⟨LL.txt (K), K + 1, ⟨u.p.q, u.p.s, u.p.steps, u.p.fr, u.p.by_⟩, u.A, u.c, u.sent, ⟨u.n.q, u.n.s, u.n.steps, u.n.fr, u.n.by_⟩, u.B, u.d⟩ : LL.He) heE Hlen.out hjn (by decide) rfl) (⟨LL.txt (K), K + 1, ⟨K + 1 + 1, u.p.s, u.p.steps, u.p.fr, u.p.by_⟩, u.A, u.c, u.sent, ⟨u.n.q, u.n.s, u.n.steps, u.n.fr, u.n.by_⟩, u.B, u.d⟩ : LL.He) heE Hlen.out hjn (by decide) rfl) (⟨LL.txt (K), K + 1, ⟨K + 1 + 1, K + 1 + 1 + 1, u.p.steps, u.p.fr, u.p.by_⟩, u.A, u.c, u.sent, ⟨u.n.q, u.n.s, u.n.steps, u.n.fr, u.n.by_⟩, u.B, u.d⟩ : LL.He) heE Hlen.out hjn (by decide) rfl)⟩ ?_
      clear hrow z0 z1 z2 z3 z4 z5 z6 z7 z8 z9 z10 z11 z12
      rintro W3 ⟨hg, hrow⟩
      replace h_p := h_p.gS hg (fun m hm h9 => hgne m (.inl hm) h9)
      replace h_n := h_n.gS hg (fun m hm h9 => hgne m (.inr hm) h9)
      replace hGx := hGx.trans (hg.mono fun m h9 => .inl (h9 ▸ rfl))
      have hgl : g < W3.heap.size := Nat.lt_of_lt_of_le hgl hg.size
      have hfz : ∀ i, W3.frozen? ⟨g, i, none⟩ = false := (hrow.unfrozen (by rw [List.length_set]; omega)).1
      clear hg
      refine (markFlyStepS_c u.p.steps u.A u.c (K + 1 + 1 + 1 + 1) (by omega) (by omega) _ h_p).mono ?_
      rintro e W4 ⟨rfl, h_p, hg⟩
      replace hg := GrownS.of hg
      replace hrow := hrow.gS hg (fun m hm h9 => hgne m (.inl h9) (by simp only [Value.ownBlock, Option.some.injEq] at hm; exact hm.symm))
      replace h_n := h_n.gS hg (fun m hm h9 => hneq m h9 hm)
      replace hGx := hGx.trans (hg.mono fun m hm => .inr (.inl hm))
      have hgl : g < W4.heap.size := Nat.lt_of_lt_of_le hgl hg.size
      have hrow : Own heC 13 144 97 W4 (.slice (some ⟨g, 0, none⟩) us.length c) (Lj.set j ⟨LL.txt (K), K + 1, ⟨K + 1 + 1, K + 1 + 1 + 1, LL.tab u.p.steps.length (LL.mkFlyStepS (K + 1 + 1 + 1 + 1)), u.p.fr, u.p.by_⟩, u.A, u.c, u.sent, ⟨u.n.q, u.n.s, u.n.steps, u.n.fr, u.n.by_⟩, u.B, u.d⟩) := hrow.same (fun i => by simp only [List.getElem?_set]; split <;> (try rfl); split <;> (try rfl); simp [heC, LL.tab_len])
      have hfz : ∀ i, W4.frozen? ⟨g, i, none⟩ = false := (hrow.unfrozen (by rw [List.length_set]; omega)).1
      clear hg
      have hS : ∀ i x, (heC (⟨LL.txt (K), K + 1, ⟨K + 1 + 1, K + 1 + 1 + 1, LL.tab u.p.steps.length (LL.mkFlyStepS (K + 1 + 1 + 1 + 1)), u.p.fr, u.p.by_⟩, u.A, u.c, u.sent, ⟨u.n.q, u.n.s, u.n.steps, u.n.fr, u.n.by_⟩, u.B, u.d⟩ : LL.He))[i]? = some x → W4.cell? ⟨g, j * 13 + i, none⟩ = some x := fun i x hx => Own.cellAt hrow heE Hlen.out hjn i x hx
      have z0 := hS 0 _ rfl
      have z1 := hS 1 _ rfl
      have z2 := hS 2 _ rfl
      have z3 := hS 3 _ rfl
      have z4 := hS 4 _ rfl
      have z5 := hS 5 _ rfl
      have z6 := hS 6 _ rfl
      have z7 := hS 7 _ rfl
      have z8 := hS 8 _ rfl
      have z9 := hS 9 _ rfl
      have z10 := hS 10 _ rfl
      have z11 := hS 11 _ rfl
      have z12 := hS 12 _ rfl
      simp only [Nat.add_zero] at z0
      clear hS
      go_wp2_with fail
      refine calls_name (fun W => GrownS W4 W (fun m => m = g) ∧ Own heC 13 144 97 W (.slice (some ⟨g, 0, none⟩) us.length c) (Lj.set j ⟨LL.txt (K), K + 1, ⟨K + 1 + 1, K + 1 + 1 + 1, LL.tab u.p.steps.length (LL.mkFlyStepS (K + 1 + 1 + 1 + 1)), (K + 1 + 1 + 1 + 1 + 7 * (u.p.steps.length : Int)), (K + 1 + 1 + 1 + 1 + 7 * (u.p.steps.length : Int)) + 1⟩, u.A, u.c, (K + 1 + 1 + 1 + 1 + 7 * (u.p.steps.length : Int)) + 1 + 1, ⟨(K + 1 + 1 + 1 + 1 + 7 * (u.p.steps.length : Int)) + 1 + 1 + 1, (K + 1 + 1 + 1 + 1 + 7 * (u.p.steps.length : Int)) + 1 + 1 + 1 + 1, u.n.steps, u.n.fr, u.n.by_⟩, u.B, u.d⟩)) ⟨(by repeat' (first | with_reducible exact GrownS.refl _ _ | with_reducible refine gS_set ?_ (by first | exact rfl | exact Or.inl rfl | exact Or.inr rfl | exact Or.inr (Or.inl rfl) | exact Or.inr (Or.inr rfl)) _ | with_reducible refine gS_drew ?_ | with_reducible refine gS_alloc ?_ _)), by simpa only [Nat.add_zero, Nat.add_assoc, Nat.reduceAdd] using (Own.cellE (j := 9) (Own.cellE (j := 8) (Own.cellE (j := 7) (Own.cellE (j := 6) (Own.cellE (j := 5) hrow (⟨LL.txt (K), K + 1, ⟨K + 1 + 1, K + 1 + 1 + 1, LL.tab u.p.steps.length (LL.mkFlyStepS (K + 1 + 1 + 1 + 1)), (K + 1 + 1 + 1 + 1 + 7 * (u.p.steps.length : Int)), u.p.by_⟩, u.A, u.c, u.sent, ⟨u.n.q, u.n.s, u.n.steps, u.n.fr, u.n.by_⟩, u.B, u.d⟩ : LL.He) heE Hlen.out hjn (by decide) rfl) (⟨LL.txt (K), K + 1, ⟨K + 1 + 1, K + 1 + 1 + 1, LL.tab u.p.steps.length (LL.mkFlyStepS (K + 1 + 1 + 1 + 1)), (K + 1 + 1 + 1 + 1 + 7 * (u.p.steps.length : Int)), (K + 1 + 1 + 1 + 1 + 7 * (u.p.steps.length : Int)) + 1⟩, u.A, u.c, u.sent, ⟨u.n.q, u.n.s, u.n.steps, u.n.fr, u.n.by_⟩, u.B, u.d⟩ : LL.He) heE Hlen.out hjn (by decide) rfl) (⟨LL.txt (K), K + 1, ⟨K + 1 + 1, K + 1 + 1 + 1, LL.tab u.p.steps.length (LL.mkFlyStepS (K + 1 + 1 + 1 + 1)), (K + 1 + 1 + 1 + 1 + 7 * (u.p.steps.length : Int)), (K + 1 + 1 + 1 + 1 + 7 * (u.p.steps.length : Int)) + 1⟩, u.A, u.c, (K + 1 + 1 + 1 + 1 + 7 * (u.p.steps.length : Int)) + 1 + 1, ⟨u.n.q, u.n.s, u.n.steps, u.n.fr, u.n.by_⟩, u.B, u.d⟩ : LL.He) heE Hlen.out hjn (by decide) rfl) (⟨LL.txt (K), K + 1, ⟨K + 1 + 1, K + 1 + 1 + 1, LL.tab u.p.steps.length (LL.mkFlyStepS (K + 1 + 1 + 1 + 1)), (K + 1 + 1 + 1 + 1 + 7 * (u.p.steps.length : Int)), (K + 1 + 1 + 1 + 1 + 7 * (u.p.steps.length : Int)) + 1⟩, u.A, u.c, (K + 1 + 1 + 1 + 1 + 7 * (u.p.steps.length : Int)) + 1 + 1, ⟨(K + 1 + 1 + 1 + 1 + 7 * (u.p.steps.length : Int)) + 1 + 1 + 1, u.n.s, u.n.steps, u.n.fr, u.n.by_⟩, u.B, u.d⟩ : LL.He) heE Hlen.out hjn (by decide) rfl) (⟨LL.txt (K), K + 1, ⟨K + 1 + 1, K + 1 + 1 + 1, LL.tab u.p.steps.length (LL.mkFlyStepS (K + 1 + 1 + 1 + 1)), (K + 1 + 1 + 1 + 1 + 7 * (u.p.steps.length : Int)), (K + 1 + 1 + 1 + 1 + 7 * (u.p.steps.length : Int)) + 1⟩, u.A, u.c, (K + 1 + 1 + 1 + 1 + 7 * (u.p.steps.length : Int)) + 1 + 1, ⟨(K + 1 + 1 + 1 + 1 + 7 * (u.p.steps.length : Int)) + 1 + 1 + 1, (K + 1 + 1 + 1 + 1 + 7 * (u.p.steps.length : Int)) + 1 + 1 + 1 + 1, u.n.steps, u.n.fr, u.n.by_⟩, u.B, u.d⟩ : LL.He) heE Hlen.out hjn (by decide) rfl)⟩ ?_
      clear hrow z0 z1 z2 z3 z4 z5 z6 z7 z8 z9 z10 z11 z12
      rintro W5 ⟨hg, hrow⟩
      replace h_p := h_p.gS hg (fun m hm h9 => hgne m (.inl hm) h9)
      replace h_n := h_n.gS hg (fun m hm h9 => hgne m (.inr hm) h9)
      replace hGx := hGx.trans (hg.mono fun m h9 => .inl (h9 ▸ rfl))
      have hgl : g < W5.heap.size := Nat.lt_of_lt_of_le hgl hg.size
      have hfz : ∀ i, W5.frozen? ⟨g, i, none⟩ = false := (hrow.unfrozen (by rw [List.length_set]; omega)).1
      clear hg
      refine (markFlyStepS_c u.n.steps u.B u.d ((K + 1 + 1 + 1 + 1 + 7 * (u.p.steps.length : Int)) + 1 + 1 + 1 + 1 + 1) (by omega) (by omega) _ h_n).mono ?_
      rintro e W6 ⟨rfl, h_n, hg⟩
      replace hg := GrownS.of hg
      replace hrow := hrow.gS hg (fun m hm h9 => hgne m (.inr h9) (by simp only [Value.ownBlock, Option.some.injEq] at hm; exact hm.symm))
      replace h_p := h_p.gS hg (fun m hm h9 => hneq m hm h9)
      replace hGx := hGx.trans (hg.mono fun m hm => .inr (.inr hm))
      have hgl : g < W6.heap.size := Nat.lt_of_lt_of_le hgl hg.size
      have hrow : Own heC 13 144 97 W6 (.slice (some ⟨g, 0, none⟩) us.length c) (Lj.set j ⟨LL.txt (K), K + 1, ⟨K + 1 + 1, K + 1 + 1 + 1, LL.tab u.p.steps.length (LL.mkFlyStepS (K + 1 + 1 + 1 + 1)), (K + 1 + 1 + 1 + 1 + 7 * (u.p.steps.length : Int)), (K + 1 + 1 + 1 + 1 + 7 * (u.p.steps.length : Int)) + 1⟩, u.A, u.c, (K + 1 + 1 + 1 + 1 + 7 * (u.p.steps.length : Int)) + 1 + 1, ⟨(K + 1 + 1 + 1 + 1 + 7 * (u.p.steps.length : Int)) + 1 + 1 + 1, (K + 1 + 1 + 1 + 1 + 7 * (u.p.steps.length : Int)) + 1 + 1 + 1 + 1, LL.tab u.n.steps.length (LL.mkFlyStepS ((K + 1 + 1 + 1 + 1 + 7 * (u.p.steps.length : Int)) + 1 + 1 + 1 + 1 + 1)), u.n.fr, u.n.by_⟩, u.B, u.d⟩) := hrow.same (fun i => by simp only [List.getElem?_set]; split <;> (try rfl); split <;> (try rfl); simp [heC, LL.tab_len])
      have hfz : ∀ i, W6.frozen? ⟨g, i, none⟩ = false := (hrow.unfrozen (by rw [List.length_set]; omega)).1
      clear hg
      have hS : ∀ i x, (heC (⟨LL.txt (K), K + 1, ⟨K + 1 + 1, K + 1 + 1 + 1, LL.tab u.p.steps.length (LL.mkFlyStepS (K + 1 + 1 + 1 + 1)), (K + 1 + 1 + 1 + 1 + 7 * (u.p.steps.length : Int)), (K + 1 + 1 + 1 + 1 + 7 * (u.p.steps.length : Int)) + 1⟩, u.A, u.c, (K + 1 + 1 + 1 + 1 + 7 * (u.p.steps.length : Int)) + 1 + 1, ⟨(K + 1 + 1 + 1 + 1 + 7 * (u.p.steps.length : Int)) + 1 + 1 + 1, (K + 1 + 1 + 1 + 1 + 7 * (u.p.steps.length : Int)) + 1 + 1 + 1 + 1, LL.tab u.n.steps.length (LL.mkFlyStepS ((K + 1 + 1 + 1 + 1 + 7 * (u.p.steps.length : Int)) + 1 + 1 + 1 + 1 + 1)), u.n.fr, u.n.by_⟩, u.B, u.d⟩ : LL.He))[i]? = some x → W6.cell? ⟨g, j * 13 + i, none⟩ = some x := fun i x hx => Own.cellAt hrow heE Hlen.out hjn i x hx
      have z0 := hS 0 _ rfl
      have z1 := hS 1 _ rfl
      have z2 := hS 2 _ rfl
      have z3 := hS 3 _ rfl
      have z4 := hS 4 _ rfl
      have z5 := hS 5 _ rfl
      have z6 := hS 6 _ rfl
      have z7 := hS 7 _ rfl
      have z8 := hS 8 _ rfl
      have z9 := hS 9 _ rfl
      have z10 := hS 10 _ rfl
      have z11 := hS 11 _ rfl
      have z12 := hS 12 _ rfl
      simp only [Nat.add_zero] at z0
      clear hS
      have hrow9 := (Own.cellE (j := 12) (Own.cellE (j := 11) hrow (⟨LL.txt (K), K + 1, ⟨K + 1 + 1, K + 1 + 1 + 1, LL.tab u.p.steps.length (LL.mkFlyStepS (K + 1 + 1 + 1 + 1)), (K + 1 + 1 + 1 + 1 + 7 * (u.p.steps.length : Int)), (K + 1 + 1 + 1 + 1 + 7 * (u.p.steps.length : Int)) + 1⟩, u.A, u.c, (K + 1 + 1 + 1 + 1 + 7 * (u.p.steps.length : Int)) + 1 + 1, ⟨(K + 1 + 1 + 1 + 1 + 7 * (u.p.steps.length : Int)) + 1 + 1 + 1, (K + 1 + 1 + 1 + 1 + 7 * (u.p.steps.length : Int)) + 1 + 1 + 1 + 1, LL.tab u.n.steps.length (LL.mkFlyStepS ((K + 1 + 1 + 1 + 1 + 7 * (u.p.steps.length : Int)) + 1 + 1 + 1 + 1 + 1)), ((K + 1 + 1 + 1 + 1 + 7 * (u.p.steps.length : Int)) + 1 + 1 + 1 + 1 + 1 + 7 * (u.n.steps.length : Int)), u.n.by_⟩, u.B, u.d⟩ : LL.He) heE Hlen.out hjn (by decide) rfl) (⟨LL.txt (K), K + 1, ⟨K + 1 + 1, K + 1 + 1 + 1, LL.tab u.p.steps.length (LL.mkFlyStepS (K + 1 + 1 + 1 + 1)), (K + 1 + 1 + 1 + 1 + 7 * (u.p.steps.length : Int)), (K + 1 + 1 + 1 + 1 + 7 * (u.p.steps.length : Int)) + 1⟩, u.A, u.c, (K + 1 + 1 + 1 + 1 + 7 * (u.p.steps.length : Int)) + 1 + 1, ⟨(K + 1 + 1 + 1 + 1 + 7 * (u.p.steps.length : Int)) + 1 + 1 + 1, (K + 1 + 1 + 1 + 1 + 7 * (u.p.steps.length : Int)) + 1 + 1 + 1 + 1, LL.tab u.n.steps.length (LL.mkFlyStepS ((K + 1 + 1 + 1 + 1 + 7 * (u.p.steps.length : Int)) + 1 + 1 + 1 + 1 + 1)), ((K + 1 + 1 + 1 + 1 + 7 * (u.p.steps.length : Int)) + 1 + 1 + 1 + 1 + 1 + 7 * (u.n.steps.length : Int)), ((K + 1 + 1 + 1 + 1 + 7 * (u.p.steps.length : Int)) + 1 + 1 + 1 + 1 + 1 + 7 * (u.n.steps.length : Int)) + 1⟩, u.B, u.d⟩ : LL.He) heE Hlen.out hjn (by decide) rfl)
      go_wp2_with fail
      go_roundw
      case rel =>
        have hfpu : ∀ m, heL.fp (LL.mkHe K u) m ↔ heL.fp (Lj.getD j LL.he0) m := fun m => by rw [hnx]; exact fp_mkHe K u m
        refine ⟨j + 1, by omega, ?_, by go_num, ?_⟩
        · show Value.int .i64 _ = Value.int .i64 (LL.endHe (LL.kAtHe us k j) (LL.nthH us j))
          rw [HKj.out, Hu.out]; rfl
        · suffices H : ∀ W9, GrownS W6 W9 (fun m => m = g) → Own heC 13 144 97 W9 (.slice (some ⟨g, 0, none⟩) us.length c) (Lj.set j (LL.mkHe K u)) → OwnBk W9 (some ⟨g, 0, none⟩) c (LL.tab us.length (LL.mix (fun i => LL.mkHe (LL.kAtHe us k i) (LL.nthH us i)) us LL.he0 (j + 1))) ∧ GrownS w W9 (FpBk (some ⟨g, 0, none⟩) c us) from H _ (by repeat' (first | with_reducible exact GrownS.refl _ _ | with_reducible refine gS_set ?_ (by first | exact rfl | exact Or.inl rfl | exact Or.inr rfl | exact Or.inr (Or.inl rfl) | exact Or.inr (Or.inr rfl)) _ | with_reducible refine gS_drew ?_ | with_reducible refine gS_alloc ?_ _)) (by have h9 := hrow9; simpa only [Nat.add_zero, Nat.add_assoc, Nat.reduceAdd, LL.mkHe] using h9)
          intro W9 hg9 hr9
          have hgy := hGx.trans (hg9.mono fun m h9 => Or.inl (by rw [h9]; rfl))
          refine ⟨?_, hG.trans (hgy.mono fun m hm => hm.elim .inl fun h9 => .inr ⟨u, hmu, h9⟩)⟩
          rw [← Hset.out]
          exact OwnR.set HO.out j (by rw [hlen]; exact hlt) LL.he0 hfpu (by rw [hlen]; exact hr9) ⟨own_tab (h_p.gS hg9 fun m hm h9 => hgne m (.inl hm) h9), own_tab (h_n.gS hg9 fun m hm h9 => hgne m (.inr hm) h9), fun m h1 h2 => hneq m (by simpa only [LL.mkHe, LL.tab_len] using h1) (by simpa only [LL.mkHe, LL.tab_len] using h2)⟩ (by rw [hnx, hlen]; exact hgy)
      case measure => simp [intOf]; omega
    · obtain rfl : j = us.length := by omega
      rw [LL.mix_all] at hO
      go_wp2
      go_ret
      exact ⟨rfl, hO, hG⟩
set_option maxRecDepth 100000 in
set_option maxHeartbeats 8000000 in
theorem heldLinkHeldS_c (us : List LL.He) (A : Option Addr) (c : Nat) (k : Int) (h0 : 0 ≤ k) (h1 : LL.kAtHe us k us.length ≤ 1125899906842624) (w : World) (h : RdBk w A c (LL.mkHeS us k)) : Calls Try.prog 75 #[.slice A us.length c, .int .i64 k] w fun e w' => e = .returned (.int .i64 (LL.kAtHe us k us.length)) ∧ Below w.heap.size w w' := by
  have hrow := h.row
  rw [LL.mkHeS_len] at hrow
  have hroom : us.length * 144 ≤ 140737488351232 := hrow.room
  go_enter Try.func75, Try.ntmps75
  go_wp2
  go_loopw [1, 5] (fun kk i wr => ∃ j : Nat, j ≤ us.length ∧ kk = .int .i64 (LL.kAtHe us k j) ∧ i = .int .i64 j ∧ Below w.heap.size w wr) (fun _ i _ => us.length - (intOf i).toNat)
  case atStart => exact ⟨0, Nat.zero_le _, rfl, rfl, Below.refl _ _⟩
  case round =>
    obtain ⟨j, hj, rfl, rfl, hb⟩ := hrel
    by_cases hlt : j < us.length
    · have hK0 : 0 ≤ LL.kAtHe us k j := Int.le_trans h0 (by have := LL.kAtHe_mono us k 0 j; rwa [Nat.zero_add] at this)
      have hK1 : LL.endHe (LL.kAtHe us k j) (LL.nthH us j) ≤ 1125899906842624 := Int.le_trans (by have := LL.kAtHe_mono us k (j + 1) (us.length - (j + 1)); rwa [show j + 1 + (us.length - (j + 1)) = us.length by omega] at this) h1
      obtain ⟨b, off, rfl, hbw⟩ := hrow.addr (by omega)
      have hgx : (LL.mkHeS us k).getD j LL.he0 = LL.mkHe (LL.kAtHe us k j) (LL.nthH us j) := LL.tab_getD hlt
      have hS : ∀ i x, (heC (LL.mkHe (LL.kAtHe us k j) (LL.nthH us j)))[i]? = some x → w.cell? ⟨b, off + j * 13 + i, none⟩ = some x := by have := hrow.here LL.he0 j hlt; rwa [hgx] at this
      have hel : heL.rd w (LL.mkHe (LL.kAtHe us k j) (LL.nthH us j)) := by have := h.el _ (List.mem_iff_getElem.2 ⟨j, by rw [LL.mkHeS_len]; exact hlt, rfl⟩); rw [show (LL.mkHeS us k)[j]'(by rw [LL.mkHeS_len]; exact hlt) = (LL.mkHeS us k).getD j LL.he0 by rw [List.getD_eq_getElem?_getD, List.getElem?_eq_getElem (by rw [LL.mkHeS_len]; exact hlt)]; rfl, hgx] at this; exact this
      generalize hKj : LL.kAtHe us k j = K at *
      have HKj := Lib.hid hKj; clear hKj
      clear hgx
      have hjn : j < us.length := hlt
      generalize hu : LL.nthH us j = u at *
      have Hu := Lib.hid hu; clear hu
      unfold LL.endHe at hK1
      have z0 := hS 0 _ rfl
      have z1 := hS 1 _ rfl
      have z2 := hS 2 _ rfl
      have z3 := hS 3 _ rfl
      have z4 := hS 4 _ rfl
      have z5 := hS 5 _ rfl
      have z6 := hS 6 _ rfl
      have z7 := hS 7 _ rfl
      have z8 := hS 8 _ rfl
      have z9 := hS 9 _ rfl
      have z10 := hS 10 _ rfl
      have z11 := hS 11 _ rfl
      have z12 := hS 12 _ rfl
      simp only [Nat.add_zero] at z0
      simp only [LL.mkHe] at z0 z1 z2 z3 z4 z5 z6 z7 z8 z9 z10 z11 z12
      clear hS
      have r_p := hel.p
      have r_n := hel.n
      simp only [LL.mkHe, LL.tab_len] at r_p r_n z4 z10
      clear hel
      obtain ⟨gc, gf, gl⟩ := bcell hb
      go_wp2_with fail
      refine wp_name (fun W => Below wr.heap.size wr W) (by repeat' (first | with_reducible exact Below.refl _ _ | with_reducible assumption | with_reducible refine b_alloc ?_ _ | with_reducible refine b_drewN ?_ _ | with_reducible refine b_drew ?_ | with_reducible refine b_set ?_ (by first | (simp only [World.size_setCell, World.size_alloc, World.size_drew]; omega) | (simp; done) | (simp; omega)) _ | with_reducible refine b_step ?_ (by with_reducible assumption))) ?_
      intro W1 hE
      replace hb := b_step hb hE
      clear gc gf gl hE
      obtain ⟨gc, gf, gl⟩ := bcell hb
      ((refine calm_b (by kernel_rfl) (by kernel_rfl) ?_); (repeat (first | ((apply sure_cons (hg := rfl)); (focus ((intro w' hS'); (obtain ⟨hcS, hfS, hlS⟩ := bcell hS'); (try simp only [World.size_setCell, World.size_alloc, World.size_drew] at hS' hcS hfS hlS); (go_simp); (try go_bits); (try ((first | rw [if_pos (by omega)] | rw [if_neg (by omega)]); go_simp)); (first | (with_reducible rfl) | (with_reducible exact rfl) | (with_reducible exact ⟨rfl, hS'⟩) | (go_at_call 115; go_loud (refine (markText_c (K) (by omega) (by omega) _).mono ?_); rintro e w'' ⟨rfl, hb⟩; (first | (subst hb; exact ⟨rfl, hS'⟩) | exact ⟨rfl, b_to hS' hb (by first | exact Nat.le_refl _ | (have h1 := hS'.size; (try simp only [World.size_setCell, World.size_alloc, World.size_drew] at h1); omega))⟩))))); (simp only [Act.put, List.setIfInBounds_toArray, List.set_cons_zero, List.set_cons_succ])) | ((apply sure_off (hg := rfl)); (simp only [Act.put, List.setIfInBounds_toArray, List.set_cons_zero, List.set_cons_succ])))); (refine sure_nil ?_))
      intro W2 hS2
      replace hb := b_step hb hS2
      clear gc gf gl hS2
      obtain ⟨gc, gf, gl⟩ := bcell hb
      go_wp2_with fail
      refine calls_name (fun W => Below W2.heap.size W2 W) (by repeat' (first | with_reducible exact Below.refl _ _ | with_reducible assumption | with_reducible refine b_alloc ?_ _ | with_reducible refine b_drewN ?_ _ | with_reducible refine b_drew ?_ | with_reducible refine b_set ?_ (by first | (simp only [World.size_setCell, World.size_alloc, World.size_drew]; omega) | (simp; done) | (simp; omega)) _ | with_reducible refine b_step ?_ (by with_reducible assumption))) ?_
      intro W3 hE
      replace hb := b_step hb hE
      clear gc gf gl hE
      obtain ⟨gc, gf, gl⟩ := bcell hb
      refine (heldFlyStepS_c u.p.steps.length u.A u.c (K + 1 + 1 + 1 + 1) (by omega) (by omega) _ (r_p.mono hb)).mono ?_
      rintro e w8 ⟨rfl, rfl⟩
      go_wp2_with fail
      refine calls_name (fun W => Below W3.heap.size W3 W) (by repeat' (first | with_reducible exact Below.refl _ _ | with_reducible assumption | with_reducible refine b_alloc ?_ _ | with_reducible refine b_drewN ?_ _ | with_reducible refine b_drew ?_ | with_reducible refine b_set ?_ (by first | (simp only [World.size_setCell, World.size_alloc, World.size_drew]; omega) | (simp; done) | (simp; omega)) _ | with_reducible refine b_step ?_ (by with_reducible assumption))) ?_
      intro W4 hE
      replace hb := b_step hb hE
      clear gc gf gl hE
      obtain ⟨gc, gf, gl⟩ := bcell hb
      refine (heldFlyStepS_c u.n.steps.length u.B u.d ((K + 1 + 1 + 1 + 1 + 7 * (u.p.steps.length : Int)) + 1 + 1 + 1 + 1 + 1) (by omega) (by omega) _ (r_n.mono hb)).mono ?_
      rintro e w8 ⟨rfl, rfl⟩
      go_wp2_with fail
      go_roundw
      case rel =>
        refine ⟨j + 1, by omega, ?_, by go_num, (by repeat' (first | with_reducible exact Below.refl _ _ | with_reducible assumption | with_reducible refine b_alloc ?_ _ | with_reducible refine b_drewN ?_ _ | with_reducible refine b_drew ?_ | with_reducible refine b_set ?_ (by first | (simp only [World.size_setCell, World.size_alloc, World.size_drew]; omega) | (simp; done) | (simp; omega)) _ | with_reducible refine b_step ?_ (by with_reducible assumption)))⟩
        show Value.int .i64 _ = Value.int .i64 (LL.endHe (LL.kAtHe us k j) (LL.nthH us j))
        rw [HKj.out, Hu.out]; rfl
      case measure => simp [intOf]; omega
    · obtain rfl : j = us.length := by omega
      go_wp2
      go_ret
      exact ⟨rfl, (by repeat' (first | with_reducible exact Below.refl _ _ | with_reducible assumption | with_reducible refine b_alloc ?_ _ | with_reducible refine b_drewN ?_ _ | with_reducible refine b_drew ?_ | with_reducible refine b_set ?_ (by first | (simp only [World.size_setCell, World.size_alloc, World.size_drew]; omega) | (simp; done) | (simp; omega)) _ | with_reducible refine b_step ?_ (by with_reducible assumption)))⟩
end Go.Proofs.Ytkpnjnkfbhomgaa
