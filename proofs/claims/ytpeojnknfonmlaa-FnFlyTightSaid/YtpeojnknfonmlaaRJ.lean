/- The law's own holding of a path. -/
import Derived.Test.YtpeojnknfonmlaaPB
import Derived.Test.YtpeojnknfonmlaaJ7
set_option linter.unusedVariables false
set_option linter.unusedSimpArgs false
namespace Go.Proofs.Ytpeojnknfonmlaa
open Go.RowKit
theorem LL.hldP_lt {p : LL.Path} {k : Nat} {a b : Int} (hk : k < p.steps.length) : LL.hldP p k a b = ⟨p.q, p.s, p.steps.set k (LL.hldS (LL.nth p.steps k) a b), p.fr, p.by_⟩ := by
  unfold LL.hldP
  rw [if_pos hk]
  congr 1
  apply List.ext_getElem?
  intro j
  rw [List.getElem?_set]
  by_cases hj : k = j
  · subst hj; simp [LL.tab, hk, LL.hldF]
  · rw [if_neg hj]
    by_cases h2 : j < p.steps.length
    · simp [LL.tab, h2, LL.hldF, LL.nth, Ne.symm hj]
    · simp [LL.tab, h2]
theorem LL.hldP_end {p : LL.Path} {a b : Int} : LL.hldP p p.steps.length a b = ⟨p.q, p.s, p.steps, max p.fr a, min p.by_ b⟩ := by
  unfold LL.hldP; rw [if_neg (Nat.lt_irrefl _)]
attribute [local go_sem] w_lt_add w_le_of w_le_add max2_i min2_i
set_option maxRecDepth 100000 in
set_option maxHeartbeats 8000000 in
theorem wfHeld_c (p : LL.Path) (A : Option Addr) (c k : Nat) (ki a b : Int) (hki : ki = k) (hk : k ≤ p.steps.length) (w : World) (h : RdS w A p.steps.length c p.steps) : Calls Try.prog 29 #[.agg #[.int .i64 p.q, .int .i64 p.s, .slice A p.steps.length c, .int .i64 p.fr, .int .i64 p.by_], .int .i64 ki, .int .i64 a, .int .i64 b] w (MkP 79 w (LL.hldP p k a b)) := by
  subst hki
  have hroom := h.room
  have hR0 := ((((Blk.new (w.alloc (.cells #[.int .i64 p.q, .int .i64 p.s, .slice A p.steps.length c, .int .i64 p.fr, .int .i64 p.by_] 43)) #[.int .i64 0, .int .i64 0, .slice none 0 0, .int .i64 0, .int .i64 0] 43))))
  have hX0 := Blk.new ((w.alloc (.cells #[.int .i64 p.q, .int .i64 p.s, .slice A p.steps.length c, .int .i64 p.fr, .int .i64 p.by_] 43)).alloc (.cells #[.int .i64 0, .int .i64 0, .slice none 0 0, .int .i64 0, .int .i64 0] 43)) #[.int .i64 p.q, .int .i64 p.s, .slice A p.steps.length c, .int .i64 p.fr, .int .i64 p.by_] 43
  simp only [World.size_alloc] at hR0 hX0
  go_enter Try.func29, Try.ntmps29
  go_upto_region 3 with (at_builtin; go_loud (refine wp_appA (bytes := 56) (e := 79) rfl _ _ _ rfl stepE (.agg (stepC LL.z0).toArray) Try.underlying41 (by kernel_rfl) rfl (by decide) (v := .slice (some ⟨w.heap.size + 1 + 1 + 1, 0, none⟩) 0 0) (xs := []) rfl (Own.made' (by simp)) rfl (h.mono (by repeat' (first | with_reducible exact Below.refl _ _ | with_reducible assumption | with_reducible refine b_alloc ?_ _ | with_reducible refine b_drewN ?_ _ | with_reducible refine b_drew ?_ | with_reducible refine b_set ?_ (by first | (simp only [World.size_setCell, World.size_alloc, World.size_drew]; omega) | (simp; done) | (simp; omega)) _ | with_reducible refine b_step ?_ (by with_reducible assumption)))) (by simpa using hroom) ?_; intro v7 w7 hO7 hg7 hat7; rw [List.nil_append] at hO7; obtain ⟨A7, c7, rfl, -⟩ := hO7.rd stepE; have hz7 := hg7.size; simp only [World.size_alloc] at hz7; have hb7 : Below w.heap.size w w7 := b_grown' (w := w) (by repeat' (first | with_reducible exact Below.refl _ _ | with_reducible assumption | with_reducible refine b_alloc ?_ _ | with_reducible refine b_drewN ?_ _ | with_reducible refine b_drew ?_ | with_reducible refine b_set ?_ (by first | (simp only [World.size_setCell, World.size_alloc, World.size_drew]; omega) | (simp; done) | (simp; omega)) _ | with_reducible refine b_step ?_ (by with_reducible assumption))) hg7 (by simp only [World.size_alloc]; omega) (fun g' hg' => by simp [Value.ownBlock] at hg'; omega); have hge7 : ∀ k, Value.ownBlock (.slice A7 p.steps.length c7) = some k → w.heap.size + 1 + 1 + 1 ≤ k := (fun k hk => by rcases hat7 with e | e <;> (rw [e] at hk; simp [Value.ownBlock] at hk; omega)); have kX7 := (hX0.a _).grown hg7 (by simp [Value.ownBlock]); have kR7 := ((hR0.a _).a _).grown hg7 (by simp [Value.ownBlock]; omega); obtain ⟨eP, fP, lP⟩ := kX7.cells; obtain ⟨eR, fR, lR⟩ := kR7.cells; clear hat7))
  have kX8 : Blk (w7.setCell ⟨w.heap.size + 1 + 1, 2, none⟩ (.slice A7 p.steps.length c7)) (w.heap.size + 1 + 1) #[.int .i64 p.q, .int .i64 p.s, .slice A7 p.steps.length c7, .int .i64 p.fr, .int .i64 p.by_] 43 := by simpa using kX7.put 2 (.slice A7 p.steps.length c7)
  have kR8 : Blk (w7.setCell ⟨w.heap.size + 1 + 1, 2, none⟩ (.slice A7 p.steps.length c7)) (w.heap.size + 1) #[.int .i64 0, .int .i64 0, .slice none 0 0, .int .i64 0, .int .i64 0] 43 := kR7.s (by simp only [ne_eq]; omega) _
  have hO8 := hO7.s (p := ⟨w.heap.size + 1 + 1, 2, none⟩) (.slice A7 p.steps.length c7) (fun j hj => by have := hge7 j hj; simp only; omega)
  have hb8 : Below w.heap.size w (w7.setCell ⟨w.heap.size + 1 + 1, 2, none⟩ (.slice A7 p.steps.length c7)) := b_set hb7 (by simp only; omega) _
  clear eP fP lP eR fR lR kX7 kR7 hO7 hg7 hX0 hR0
  generalize w7.setCell ⟨w.heap.size + 1 + 1, 2, none⟩ (.slice A7 p.steps.length c7) = W at *
  have lW := blk_lt kX8.at_
  obtain ⟨eP, fP, lP⟩ := kX8.cells
  obtain ⟨eR, fR, lR⟩ := kR8.cells
  replace hge7 := Lib.hid hge7
  by_cases hlt : k < p.steps.length
  · have hPl := LL.hldP_lt (a := a) (b := b) hlt
    replace hPl := Lib.hid hPl
    obtain ⟨g7, rfl⟩ := hO8.someA (by omega)
    obtain ⟨d0, d1, d2, d3, d4, d5, d6⟩ := (hO8.rd_at stepE rfl).S7 k hlt
    simp only [Nat.zero_add] at d0 d1 d2 d3 d4 d5 d6
    obtain ⟨fa, la⟩ := hO8.unfrozen (by omega)
    have hg7 : w.heap.size + 1 + 1 + 1 ≤ g7 := hge7.out g7 rfl
    have hzd : p.steps.getD k LL.z0 = LL.nth p.steps k := rfl
    have hzself : p.steps.set k (LL.nth p.steps k) = p.steps := by
      apply List.ext_getElem?
      intro j
      rw [List.getElem?_set]
      by_cases hj : k = j
      · subst hj; simp [hlt, LL.nth, List.getD_eq_getElem?_getD]
      · rw [if_neg hj]
    generalize LL.nth p.steps k = z at *
    have hzd' := Lib.hid hzd
    have hzs' := Lib.hid hzself
    clear hzd hzself
    by_cases u1 : z.fr < a
    · by_cases u2 : b < z.by_
      · have hzd := hzd'.out
        have hz : (⟨z.x, z.y, z.lo, z.hi, a, b, z.hold⟩ : LL.Step) = LL.hldS z a b := by unfold LL.hldS; rw [show max z.fr a = a by omega, show min z.by_ b = b by omega]
        have hO9 := (hO8.setSt rfl k hlt 4 (x := .int .i64 a) (s := ⟨z.x, z.y, z.lo, z.hi, a, z.by_, z.hold⟩) (by omega) (by rw [hzd]; rfl)).setSt (by rw [List.length_set]) k hlt 5 (x := .int .i64 b) (s := ⟨z.x, z.y, z.lo, z.hi, a, b, z.hold⟩) (by omega) (by rw [List.getD_eq_getElem?_getD, List.getElem?_set_self hlt]; rfl)
        rw [List.set_set, hz] at hO9
        clear hzd
        replace hO9 := Lib.hid hO9
        clear hz
        go_wp2
        (refine bodyPost_ret (res_c rfl _ [.int .i64 p.q, .int .i64 p.s, .slice (some ⟨g7, 0, none⟩) p.steps.length c7, .int .i64 p.fr, .int .i64 p.by_] rfl _ Try.underlying43 rfl (by kernel_rfl) (by simp only [CellsAt, and_true]; and_intros <;> go_simp)) rfl ?_)
        rw [hPl.out]
        have hO9' := hO9.out
        have hge9 : ∀ j, Value.ownBlock (.slice (some ⟨g7, 0, none⟩) p.steps.length c7) = some j → j ≠ w.heap.size + 1 := fun j hj => by have := hge7.out j hj; omega
        exact ⟨_, rfl, (by repeat' (first | with_reducible assumption | with_reducible refine Own.s ?_ _ (fun k hk => by have := hge9 k hk; (try simp only); omega) | with_reducible refine Own.a ?_ _ | with_reducible refine Own.d ?_ | with_reducible refine Own.dN ?_ _ | with_reducible refine Own.b ?_ (by with_reducible assumption))), fun j hj => by have := hge7.out j hj; omega, (by repeat' (first | with_reducible exact Below.refl _ _ | with_reducible assumption | with_reducible refine b_alloc ?_ _ | with_reducible refine b_drewN ?_ _ | with_reducible refine b_drew ?_ | with_reducible refine b_set ?_ (by first | (simp only [World.size_setCell, World.size_alloc, World.size_drew]; omega) | (simp; done) | (simp; omega)) _ | with_reducible refine b_step ?_ (by with_reducible assumption)))⟩
      · have hzd := hzd'.out
        have hz : (⟨z.x, z.y, z.lo, z.hi, a, z.by_, z.hold⟩ : LL.Step) = LL.hldS z a b := by unfold LL.hldS; rw [show max z.fr a = a by omega, show min z.by_ b = z.by_ by omega]
        have hO9 := hO8.setSt rfl k hlt 4 (x := .int .i64 a) (s := ⟨z.x, z.y, z.lo, z.hi, a, z.by_, z.hold⟩) (by omega) (by rw [hzd]; rfl)
        rw [hz] at hO9
        clear hzd
        replace hO9 := Lib.hid hO9
        clear hz
        go_wp2
        (refine bodyPost_ret (res_c rfl _ [.int .i64 p.q, .int .i64 p.s, .slice (some ⟨g7, 0, none⟩) p.steps.length c7, .int .i64 p.fr, .int .i64 p.by_] rfl _ Try.underlying43 rfl (by kernel_rfl) (by simp only [CellsAt, and_true]; and_intros <;> go_simp)) rfl ?_)
        rw [hPl.out]
        have hO9' := hO9.out
        have hge9 : ∀ j, Value.ownBlock (.slice (some ⟨g7, 0, none⟩) p.steps.length c7) = some j → j ≠ w.heap.size + 1 := fun j hj => by have := hge7.out j hj; omega
        exact ⟨_, rfl, (by repeat' (first | with_reducible assumption | with_reducible refine Own.s ?_ _ (fun k hk => by have := hge9 k hk; (try simp only); omega) | with_reducible refine Own.a ?_ _ | with_reducible refine Own.d ?_ | with_reducible refine Own.dN ?_ _ | with_reducible refine Own.b ?_ (by with_reducible assumption))), fun j hj => by have := hge7.out j hj; omega, (by repeat' (first | with_reducible exact Below.refl _ _ | with_reducible assumption | with_reducible refine b_alloc ?_ _ | with_reducible refine b_drewN ?_ _ | with_reducible refine b_drew ?_ | with_reducible refine b_set ?_ (by first | (simp only [World.size_setCell, World.size_alloc, World.size_drew]; omega) | (simp; done) | (simp; omega)) _ | with_reducible refine b_step ?_ (by with_reducible assumption)))⟩
    · by_cases u2 : b < z.by_
      · have hzd := hzd'.out
        have hz : (⟨z.x, z.y, z.lo, z.hi, z.fr, b, z.hold⟩ : LL.Step) = LL.hldS z a b := by unfold LL.hldS; rw [show max z.fr a = z.fr by omega, show min z.by_ b = b by omega]
        have hO9 := hO8.setSt rfl k hlt 5 (x := .int .i64 b) (s := ⟨z.x, z.y, z.lo, z.hi, z.fr, b, z.hold⟩) (by omega) (by rw [hzd]; rfl)
        rw [hz] at hO9
        clear hzd
        replace hO9 := Lib.hid hO9
        clear hz
        go_wp2
        (refine bodyPost_ret (res_c rfl _ [.int .i64 p.q, .int .i64 p.s, .slice (some ⟨g7, 0, none⟩) p.steps.length c7, .int .i64 p.fr, .int .i64 p.by_] rfl _ Try.underlying43 rfl (by kernel_rfl) (by simp only [CellsAt, and_true]; and_intros <;> go_simp)) rfl ?_)
        rw [hPl.out]
        have hO9' := hO9.out
        have hge9 : ∀ j, Value.ownBlock (.slice (some ⟨g7, 0, none⟩) p.steps.length c7) = some j → j ≠ w.heap.size + 1 := fun j hj => by have := hge7.out j hj; omega
        exact ⟨_, rfl, (by repeat' (first | with_reducible assumption | with_reducible refine Own.s ?_ _ (fun k hk => by have := hge9 k hk; (try simp only); omega) | with_reducible refine Own.a ?_ _ | with_reducible refine Own.d ?_ | with_reducible refine Own.dN ?_ _ | with_reducible refine Own.b ?_ (by with_reducible assumption))), fun j hj => by have := hge7.out j hj; omega, (by repeat' (first | with_reducible exact Below.refl _ _ | with_reducible assumption | with_reducible refine b_alloc ?_ _ | with_reducible refine b_drewN ?_ _ | with_reducible refine b_drew ?_ | with_reducible refine b_set ?_ (by first | (simp only [World.size_setCell, World.size_alloc, World.size_drew]; omega) | (simp; done) | (simp; omega)) _ | with_reducible refine b_step ?_ (by with_reducible assumption)))⟩
      · have hzself := hzs'.out
        have hz : (⟨z.x, z.y, z.lo, z.hi, z.fr, z.by_, z.hold⟩ : LL.Step) = LL.hldS z a b := by unfold LL.hldS; rw [show max z.fr a = z.fr by omega, show min z.by_ b = z.by_ by omega]
        have hO9 : Own stepC 7 56 79 W (.slice (some ⟨g7, 0, none⟩) p.steps.length c7) (p.steps.set k (LL.hldS z a b)) := by
          rw [← hz]
          have e : p.steps.set k (⟨z.x, z.y, z.lo, z.hi, z.fr, z.by_, z.hold⟩ : LL.Step) = p.steps := hzself
          rw [e]; exact hO8
        clear hzself
        replace hO9 := Lib.hid hO9
        clear hz
        go_wp2
        (refine bodyPost_ret (res_c rfl _ [.int .i64 p.q, .int .i64 p.s, .slice (some ⟨g7, 0, none⟩) p.steps.length c7, .int .i64 p.fr, .int .i64 p.by_] rfl _ Try.underlying43 rfl (by kernel_rfl) (by simp only [CellsAt, and_true]; and_intros <;> go_simp)) rfl ?_)
        rw [hPl.out]
        have hO9' := hO9.out
        have hge9 : ∀ j, Value.ownBlock (.slice (some ⟨g7, 0, none⟩) p.steps.length c7) = some j → j ≠ w.heap.size + 1 := fun j hj => by have := hge7.out j hj; omega
        exact ⟨_, rfl, (by repeat' (first | with_reducible assumption | with_reducible refine Own.s ?_ _ (fun k hk => by have := hge9 k hk; (try simp only); omega) | with_reducible refine Own.a ?_ _ | with_reducible refine Own.d ?_ | with_reducible refine Own.dN ?_ _ | with_reducible refine Own.b ?_ (by with_reducible assumption))), fun j hj => by have := hge7.out j hj; omega, (by repeat' (first | with_reducible exact Below.refl _ _ | with_reducible assumption | with_reducible refine b_alloc ?_ _ | with_reducible refine b_drewN ?_ _ | with_reducible refine b_drew ?_ | with_reducible refine b_set ?_ (by first | (simp only [World.size_setCell, World.size_alloc, World.size_drew]; omega) | (simp; done) | (simp; omega)) _ | with_reducible refine b_step ?_ (by with_reducible assumption)))⟩
  · obtain rfl : k = p.steps.length := by omega
    by_cases u1 : p.fr < a
    · by_cases u2 : b < p.by_
      · have u3 := u1
        have hz : LL.hldP p p.steps.length a b = ⟨p.q, p.s, p.steps, a, b⟩ := by rw [LL.hldP_end, show max p.fr a = a by omega, show min p.by_ b = b by omega]
        replace hz := Lib.hid hz
        go_wp2
        (refine bodyPost_ret (res_c rfl _ [.int .i64 p.q, .int .i64 p.s, .slice A7 p.steps.length c7, .int .i64 a, .int .i64 b] rfl _ Try.underlying43 rfl (by kernel_rfl) (by simp only [CellsAt, and_true]; and_intros <;> go_simp)) rfl ?_)
        rw [hz.out]
        have hge9 : ∀ j, Value.ownBlock (.slice A7 p.steps.length c7) = some j → j ≠ w.heap.size + 1 ∧ j ≠ w.heap.size + 1 + 1 := fun j hj => by have := hge7.out j hj; omega
        exact ⟨_, rfl, (by repeat' (first | with_reducible assumption | with_reducible refine Own.s ?_ _ (fun k hk => by have := hge9 k hk; (try simp only); omega) | with_reducible refine Own.a ?_ _ | with_reducible refine Own.d ?_ | with_reducible refine Own.dN ?_ _ | with_reducible refine Own.b ?_ (by with_reducible assumption))), fun j hj => by have := hge7.out j hj; omega, (by repeat' (first | with_reducible exact Below.refl _ _ | with_reducible assumption | with_reducible refine b_alloc ?_ _ | with_reducible refine b_drewN ?_ _ | with_reducible refine b_drew ?_ | with_reducible refine b_set ?_ (by first | (simp only [World.size_setCell, World.size_alloc, World.size_drew]; omega) | (simp; done) | (simp; omega)) _ | with_reducible refine b_step ?_ (by with_reducible assumption)))⟩
      · have u3 := u1
        have hz : LL.hldP p p.steps.length a b = ⟨p.q, p.s, p.steps, a, p.by_⟩ := by rw [LL.hldP_end, show max p.fr a = a by omega, show min p.by_ b = p.by_ by omega]
        replace hz := Lib.hid hz
        go_wp2
        (refine bodyPost_ret (res_c rfl _ [.int .i64 p.q, .int .i64 p.s, .slice A7 p.steps.length c7, .int .i64 a, .int .i64 p.by_] rfl _ Try.underlying43 rfl (by kernel_rfl) (by simp only [CellsAt, and_true]; and_intros <;> go_simp)) rfl ?_)
        rw [hz.out]
        have hge9 : ∀ j, Value.ownBlock (.slice A7 p.steps.length c7) = some j → j ≠ w.heap.size + 1 ∧ j ≠ w.heap.size + 1 + 1 := fun j hj => by have := hge7.out j hj; omega
        exact ⟨_, rfl, (by repeat' (first | with_reducible assumption | with_reducible refine Own.s ?_ _ (fun k hk => by have := hge9 k hk; (try simp only); omega) | with_reducible refine Own.a ?_ _ | with_reducible refine Own.d ?_ | with_reducible refine Own.dN ?_ _ | with_reducible refine Own.b ?_ (by with_reducible assumption))), fun j hj => by have := hge7.out j hj; omega, (by repeat' (first | with_reducible exact Below.refl _ _ | with_reducible assumption | with_reducible refine b_alloc ?_ _ | with_reducible refine b_drewN ?_ _ | with_reducible refine b_drew ?_ | with_reducible refine b_set ?_ (by first | (simp only [World.size_setCell, World.size_alloc, World.size_drew]; omega) | (simp; done) | (simp; omega)) _ | with_reducible refine b_step ?_ (by with_reducible assumption)))⟩
    · by_cases u2 : b < p.by_
      · have u3 := u1
        have hz : LL.hldP p p.steps.length a b = ⟨p.q, p.s, p.steps, p.fr, b⟩ := by rw [LL.hldP_end, show max p.fr a = p.fr by omega, show min p.by_ b = b by omega]
        replace hz := Lib.hid hz
        go_wp2
        (refine bodyPost_ret (res_c rfl _ [.int .i64 p.q, .int .i64 p.s, .slice A7 p.steps.length c7, .int .i64 p.fr, .int .i64 b] rfl _ Try.underlying43 rfl (by kernel_rfl) (by simp only [CellsAt, and_true]; and_intros <;> go_simp)) rfl ?_)
        rw [hz.out]
        have hge9 : ∀ j, Value.ownBlock (.slice A7 p.steps.length c7) = some j → j ≠ w.heap.size + 1 ∧ j ≠ w.heap.size + 1 + 1 := fun j hj => by have := hge7.out j hj; omega
        exact ⟨_, rfl, (by repeat' (first | with_reducible assumption | with_reducible refine Own.s ?_ _ (fun k hk => by have := hge9 k hk; (try simp only); omega) | with_reducible refine Own.a ?_ _ | with_reducible refine Own.d ?_ | with_reducible refine Own.dN ?_ _ | with_reducible refine Own.b ?_ (by with_reducible assumption))), fun j hj => by have := hge7.out j hj; omega, (by repeat' (first | with_reducible exact Below.refl _ _ | with_reducible assumption | with_reducible refine b_alloc ?_ _ | with_reducible refine b_drewN ?_ _ | with_reducible refine b_drew ?_ | with_reducible refine b_set ?_ (by first | (simp only [World.size_setCell, World.size_alloc, World.size_drew]; omega) | (simp; done) | (simp; omega)) _ | with_reducible refine b_step ?_ (by with_reducible assumption)))⟩
      · have u3 := u1
        have hz : LL.hldP p p.steps.length a b = ⟨p.q, p.s, p.steps, p.fr, p.by_⟩ := by rw [LL.hldP_end, show max p.fr a = p.fr by omega, show min p.by_ b = p.by_ by omega]
        replace hz := Lib.hid hz
        go_wp2
        (refine bodyPost_ret (res_c rfl _ [.int .i64 p.q, .int .i64 p.s, .slice A7 p.steps.length c7, .int .i64 p.fr, .int .i64 p.by_] rfl _ Try.underlying43 rfl (by kernel_rfl) (by simp only [CellsAt, and_true]; and_intros <;> go_simp)) rfl ?_)
        rw [hz.out]
        have hge9 : ∀ j, Value.ownBlock (.slice A7 p.steps.length c7) = some j → j ≠ w.heap.size + 1 ∧ j ≠ w.heap.size + 1 + 1 := fun j hj => by have := hge7.out j hj; omega
        exact ⟨_, rfl, (by repeat' (first | with_reducible assumption | with_reducible refine Own.s ?_ _ (fun k hk => by have := hge9 k hk; (try simp only); omega) | with_reducible refine Own.a ?_ _ | with_reducible refine Own.d ?_ | with_reducible refine Own.dN ?_ _ | with_reducible refine Own.b ?_ (by with_reducible assumption))), fun j hj => by have := hge7.out j hj; omega, (by repeat' (first | with_reducible exact Below.refl _ _ | with_reducible assumption | with_reducible refine b_alloc ?_ _ | with_reducible refine b_drewN ?_ _ | with_reducible refine b_drew ?_ | with_reducible refine b_set ?_ (by first | (simp only [World.size_setCell, World.size_alloc, World.size_drew]; omega) | (simp; done) | (simp; omega)) _ | with_reducible refine b_step ?_ (by with_reducible assumption)))⟩
end Go.Proofs.Ytpeojnknfonmlaa
