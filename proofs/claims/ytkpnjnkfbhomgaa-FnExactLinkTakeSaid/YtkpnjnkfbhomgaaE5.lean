/- An aircraft that hears a word: LinkTake of the reference. -/
import Derived.Test.YtkpnjnkfbhomgaaEA
set_option linter.unusedVariables false
set_option linter.unusedSimpArgs false
namespace Go.Proofs.Ytkpnjnkfbhomgaa
open Go.RowKit
attribute [local go_sem] w_lt_add w_le_of w_le_add max2_i min2_i mx_max
set_option maxRecDepth 100000 in
set_option maxHeartbeats 4000000 in
theorem spec_l22Can_c (x : LL.Craft) (A F : Option Addr) (c m : Nat) (p : LL.Path) (B : Option Addr) (d : Nat) (t : Int) (w : World) (h0 : 0 ≤ t) (h1 : t ≤ 10000) (h : RdS w A x.path.steps.length c x.path.steps) (hF : RdI w F x.flown.length m x.flown) (hp : RdS w B p.steps.length d p.steps) : Calls Try.prog 91 #[.agg #[.string x.name, .int .i64 x.number, .int .i64 x.no, .int .i64 x.path.q, .int .i64 x.path.s, .slice A x.path.steps.length c, .int .i64 x.path.fr, .int .i64 x.path.by_, .slice F x.flown.length m], .agg #[.int .i64 p.q, .int .i64 p.s, .slice B p.steps.length d, .int .i64 p.fr, .int .i64 p.by_], .int .i64 t] w fun e w' => e = .returned (.bool (decide (LL.Along x p t))) ∧ Below w.heap.size w w' := by
  have hroom' := hF.room
  by_cases hl : x.flown.length = 0
  · have hl2 : ((x.flown.length : Int) == 0) = true := by simp [hl]
    have hM : LL.Waits p t ↔ LL.Along x p t := ⟨fun h9 => ⟨(LL.stays_none hl).2 h9, fun h8 => absurd hl (by omega)⟩, fun h9 => (LL.stays_none hl).1 h9.1⟩
    have HM := Lib.hid hM
    clear hl hM
    go_enter Try.func91, Try.ntmps91
    go_wp2_with fail
    refine calls_name (fun W => Below w.heap.size w W) (by repeat' (first | with_reducible exact Below.refl _ _ | with_reducible assumption | with_reducible refine b_alloc ?_ _ | with_reducible refine b_drewN ?_ _ | with_reducible refine b_drew ?_ | with_reducible refine b_set ?_ (by first | (simp only [World.size_setCell, World.size_alloc, World.size_drew]; omega) | (simp; done) | (simp; omega)) _ | with_reducible refine b_step ?_ (by with_reducible assumption))) ?_
    intro W1 hE
    refine (spec_l22Waits_c p B d t _ h0 h1 (hp.mono hE)).mono ?_
    rintro e W2 ⟨rfl, hB⟩
    have hb := b_step hE hB
    go_wp2_with fail
    go_ret
    exact ⟨rb (decide_eq_decide.2 HM.out), (by repeat' (first | with_reducible exact Below.refl _ _ | with_reducible assumption | with_reducible refine b_alloc ?_ _ | with_reducible refine b_drewN ?_ _ | with_reducible refine b_drew ?_ | with_reducible refine b_set ?_ (by first | (simp only [World.size_setCell, World.size_alloc, World.size_drew]; omega) | (simp; done) | (simp; omega)) _ | with_reducible refine b_step ?_ (by with_reducible assumption)))⟩
  · have hl2 : ((x.flown.length : Int) == 0) = false := beq_eq_false_iff_ne.2 (by omega)
    have hl3 : 0 < x.flown.length := by omega
    have Hl := Lib.hid hl
    clear hl
    go_enter Try.func91, Try.ntmps91
    go_wp2_with fail
    refine calls_name (fun W => Below w.heap.size w W ∧ Blk W w.heap.size #[.string x.name, .int .i64 x.number, .int .i64 x.no, .int .i64 x.path.q, .int .i64 x.path.s, .slice A x.path.steps.length c, .int .i64 x.path.fr, .int .i64 x.path.by_, .slice F x.flown.length m] 74 ∧ Blk W (w.heap.size + 1) #[.int .i64 p.q, .int .i64 p.s, .slice B p.steps.length d, .int .i64 p.fr, .int .i64 p.by_] 44) ⟨(by repeat' (first | with_reducible exact Below.refl _ _ | with_reducible assumption | with_reducible refine b_alloc ?_ _ | with_reducible refine b_drewN ?_ _ | with_reducible refine b_drew ?_ | with_reducible refine b_set ?_ (by first | (simp only [World.size_setCell, World.size_alloc, World.size_drew]; omega) | (simp; done) | (simp; omega)) _ | with_reducible refine b_step ?_ (by with_reducible assumption))), (by repeat' (first | with_reducible assumption | with_reducible exact Blk.new _ _ _ | with_reducible exact Blk.new' _ _ (by first | (simp only [World.size_alloc, World.size_setCell, World.size_drew]; done) | (simp only [World.size_alloc, World.size_setCell, World.size_drew]; omega) | omega) | with_reducible refine Blk.a ?_ _ | with_reducible refine Blk.d ?_ | with_reducible refine Blk.dN ?_ _ | with_reducible refine Blk.s ?_ (by simp only [ne_eq]; omega) _ | with_reducible refine Blk.b ?_ (by with_reducible assumption))), (by repeat' (first | with_reducible assumption | with_reducible exact Blk.new _ _ _ | with_reducible exact Blk.new' _ _ (by first | (simp only [World.size_alloc, World.size_setCell, World.size_drew]; done) | (simp only [World.size_alloc, World.size_setCell, World.size_drew]; omega) | omega) | with_reducible refine Blk.a ?_ _ | with_reducible refine Blk.d ?_ | with_reducible refine Blk.dN ?_ _ | with_reducible refine Blk.s ?_ (by simp only [ne_eq]; omega) _ | with_reducible refine Blk.b ?_ (by with_reducible assumption)))⟩ ?_
    rintro W1 ⟨hb, kC, kP⟩
    refine (spec_FlyShared_c x.path p A B c d _ (h.mono hb) (hp.mono hb)).mono ?_
    rintro e W2 ⟨rfl, hB⟩
    replace hb := b_step hb hB; replace kC := kC.b hB; replace kP := kP.b hB; clear hB
    by_cases hsh : x.flown.length ≤ LL.shared x.path p
    · have hshd : decide ((x.flown.length : Int) - 1 < (LL.shared x.path p : Int)) = true := by simp; omega
      obtain ⟨ekC, fkC, lkC⟩ := kC.cells; obtain ⟨ekP, fkP, lkP⟩ := kP.cells
      go_wp2_with fail
      refine calls_name (fun W => Below W2.heap.size W2 W) (by repeat' (first | with_reducible exact Below.refl _ _ | with_reducible assumption | with_reducible refine b_alloc ?_ _ | with_reducible refine b_drewN ?_ _ | with_reducible refine b_drew ?_ | with_reducible refine b_set ?_ (by first | (simp only [World.size_setCell, World.size_alloc, World.size_drew]; omega) | (simp; done) | (simp; omega)) _ | with_reducible refine b_step ?_ (by with_reducible assumption))) ?_; intro W3 hE; clear ekC fkC lkC ekP fkP lkP; replace hb := b_step hb hE; replace kC := kC.b hE; replace kP := kP.b hE; clear hE
      refine (spec_l22Stays_c p x.flown B F d m t _ h0 h1 (hp.mono hb) (hF.mono hb)).mono ?_
      rintro e W4 ⟨rfl, hB⟩
      replace hb := b_step hb hB
      go_wp2_with fail
      go_ret
      exact ⟨rb (decide_eq_decide.2 ⟨fun h9 => ⟨h9, fun _ => hsh⟩, fun h9 => h9.1⟩), (by repeat' (first | with_reducible exact Below.refl _ _ | with_reducible assumption | with_reducible refine b_alloc ?_ _ | with_reducible refine b_drewN ?_ _ | with_reducible refine b_drew ?_ | with_reducible refine b_set ?_ (by first | (simp only [World.size_setCell, World.size_alloc, World.size_drew]; omega) | (simp; done) | (simp; omega)) _ | with_reducible refine b_step ?_ (by with_reducible assumption)))⟩
    · have hshd : decide ((x.flown.length : Int) - 1 < (LL.shared x.path p : Int)) = false := by simp; omega
      have HS := Lib.hid hsh
      go_wp2_with fail
      go_ret
      exact ⟨rd_ (iff_of_false (fun h9 => HS.out (h9.2 hl3)) (by simp)), (by repeat' (first | with_reducible exact Below.refl _ _ | with_reducible assumption | with_reducible refine b_alloc ?_ _ | with_reducible refine b_drewN ?_ _ | with_reducible refine b_drew ?_ | with_reducible refine b_set ?_ (by first | (simp only [World.size_setCell, World.size_alloc, World.size_drew]; omega) | (simp; done) | (simp; omega)) _ | with_reducible refine b_step ?_ (by with_reducible assumption)))⟩
set_option maxRecDepth 100000 in
set_option maxHeartbeats 4000000 in
theorem spec_LinkTake_c (x : LL.Craft) (y : LL.Word) (A F B : Option Addr) (c m d : Nat) (t : Int) (hs : x.name.size ≤ 9223372036854775807) (hs' : y.name.size ≤ 9223372036854775807) (w : World) (h : RdS w A x.path.steps.length c x.path.steps) (hF : RdI w F x.flown.length m x.flown) (hy : RdS w B y.path.steps.length d y.path.steps) : Calls Try.prog 40 #[.agg #[.string x.name, .int .i64 x.number, .int .i64 x.no, .int .i64 x.path.q, .int .i64 x.path.s, .slice A x.path.steps.length c, .int .i64 x.path.fr, .int .i64 x.path.by_, .slice F x.flown.length m], .agg #[.int .i64 y.kind, .string y.name, .int .i64 y.number, .int .i64 y.path.q, .int .i64 y.path.s, .slice B y.path.steps.length d, .int .i64 y.path.fr, .int .i64 y.path.by_], .int .i64 t] w (MkCrW w (LL.takeC x y t) (LL.takeW x y t) (decide (LL.CanTake x y t))) := by
  have hroom := h.room
  have hroom' := hF.room
  have hroomy := hy.room
  go_enter Try.func40, Try.ntmps40
  go_wp2_with fail
  refine calls_name (fun W => Below w.heap.size w W ∧ Blk W w.heap.size #[.string x.name, .int .i64 x.number, .int .i64 x.no, .int .i64 x.path.q, .int .i64 x.path.s, .slice A x.path.steps.length c, .int .i64 x.path.fr, .int .i64 x.path.by_, .slice F x.flown.length m] 74 ∧ Blk W (w.heap.size + 1) #[.int .i64 y.kind, .string y.name, .int .i64 y.number, .int .i64 y.path.q, .int .i64 y.path.s, .slice B y.path.steps.length d, .int .i64 y.path.fr, .int .i64 y.path.by_] 46 ∧ Blk W (w.heap.size + 1 + 1) #[.string ⟨#[]⟩, .int .i64 0, .int .i64 0, .int .i64 0, .int .i64 0, .slice none 0 0, .int .i64 0, .int .i64 0, .slice none 0 0] 74 ∧ Blk W (w.heap.size + 1 + 1 + 1) #[.int .i64 0, .string ⟨#[]⟩, .int .i64 0, .int .i64 0, .int .i64 0, .slice none 0 0, .int .i64 0, .int .i64 0] 46) ⟨(by repeat' (first | with_reducible exact Below.refl _ _ | with_reducible assumption | with_reducible refine b_alloc ?_ _ | with_reducible refine b_drewN ?_ _ | with_reducible refine b_drew ?_ | with_reducible refine b_set ?_ (by first | (simp only [World.size_setCell, World.size_alloc, World.size_drew]; omega) | (simp; done) | (simp; omega)) _ | with_reducible refine b_step ?_ (by with_reducible assumption))), (by repeat' (first | with_reducible assumption | with_reducible exact Blk.new _ _ _ | with_reducible exact Blk.new' _ _ (by first | (simp only [World.size_alloc, World.size_setCell, World.size_drew]; done) | (simp only [World.size_alloc, World.size_setCell, World.size_drew]; omega) | omega) | with_reducible refine Blk.a ?_ _ | with_reducible refine Blk.d ?_ | with_reducible refine Blk.dN ?_ _ | with_reducible refine Blk.s ?_ (by simp only [ne_eq]; omega) _ | with_reducible refine Blk.b ?_ (by with_reducible assumption))), (by repeat' (first | with_reducible assumption | with_reducible exact Blk.new _ _ _ | with_reducible exact Blk.new' _ _ (by first | (simp only [World.size_alloc, World.size_setCell, World.size_drew]; done) | (simp only [World.size_alloc, World.size_setCell, World.size_drew]; omega) | omega) | with_reducible refine Blk.a ?_ _ | with_reducible refine Blk.d ?_ | with_reducible refine Blk.dN ?_ _ | with_reducible refine Blk.s ?_ (by simp only [ne_eq]; omega) _ | with_reducible refine Blk.b ?_ (by with_reducible assumption))), (by repeat' (first | with_reducible assumption | with_reducible exact Blk.new _ _ _ | with_reducible exact Blk.new' _ _ (by first | (simp only [World.size_alloc, World.size_setCell, World.size_drew]; done) | (simp only [World.size_alloc, World.size_setCell, World.size_drew]; omega) | omega) | with_reducible refine Blk.a ?_ _ | with_reducible refine Blk.d ?_ | with_reducible refine Blk.dN ?_ _ | with_reducible refine Blk.s ?_ (by simp only [ne_eq]; omega) _ | with_reducible refine Blk.b ?_ (by with_reducible assumption))), (by repeat' (first | with_reducible assumption | with_reducible exact Blk.new _ _ _ | with_reducible exact Blk.new' _ _ (by first | (simp only [World.size_alloc, World.size_setCell, World.size_drew]; done) | (simp only [World.size_alloc, World.size_setCell, World.size_drew]; omega) | omega) | with_reducible refine Blk.a ?_ _ | with_reducible refine Blk.d ?_ | with_reducible refine Blk.dN ?_ _ | with_reducible refine Blk.s ?_ (by simp only [ne_eq]; omega) _ | with_reducible refine Blk.b ?_ (by with_reducible assumption)))⟩ ?_
  rintro W1 ⟨hb, kC, kY, kR, kS⟩
  have hR1 := kS.cells.2.2
  refine (spec_l22Craft_c x A F c m _ (h.mono hb) (hF.mono hb)).mono ?_
  rintro e W2 ⟨A1, c1, F1, m1, rfl, hO, hOg, hB⟩
  have hgx : w.heap.size + 1 + 1 + 1 < W2.heap.size := by have := hB.size; omega
  have hOl := hO.lt
  have hO2 : ∀ k, FpC x A1 c1 F1 m1 k → w.heap.size + 1 + 1 + 1 < k ∧ k < W2.heap.size := fun k hk => by have := hOg k hk; have := hOl k hk; omega
  clear hOg hOl
  replace hb := b_step hb hB; replace kC := kC.b hB; replace kY := kY.b hB; replace kR := kR.b hB; replace kS := kS.b hB; clear hB
  obtain ⟨ekC, fkC, lkC⟩ := kC.cells
  go_wp2_with fail
  refine calls_name (fun W => Below W2.heap.size W2 W ∧ Blk W W2.heap.size #[.string x.name, .int .i64 x.number, .int .i64 x.no, .int .i64 x.path.q, .int .i64 x.path.s, .slice A1 x.path.steps.length c1, .int .i64 x.path.fr, .int .i64 x.path.by_, .slice F1 x.flown.length m1] 74) ⟨(by repeat' (first | with_reducible exact Below.refl _ _ | with_reducible assumption | with_reducible refine b_alloc ?_ _ | with_reducible refine b_drewN ?_ _ | with_reducible refine b_drew ?_ | with_reducible refine b_set ?_ (by first | (simp only [World.size_setCell, World.size_alloc, World.size_drew]; omega) | (simp; done) | (simp; omega)) _ | with_reducible refine b_step ?_ (by with_reducible assumption))), Blk.new _ _ _⟩ ?_
  rintro W3 ⟨hE, kX⟩
  clear ekC fkC lkC
  replace hb := b_step hb hE; replace kC := kC.b hE; replace kY := kY.b hE; replace kR := kR.b hE; replace kS := kS.b hE; replace hO := hO.b hE; clear hE
  generalize W2.heap.size = gx at *
  refine (spec_LinkCraftOk_c x A F c m t hs _ (h.mono hb) (hF.mono hb)).mono ?_
  rintro e W4 ⟨rfl, hB⟩
  replace hb := b_step hb hB; replace kC := kC.b hB; replace kY := kY.b hB; replace kR := kR.b hB; replace kS := kS.b hB; replace kX := kX.b hB; replace hO := hO.b hB; clear hB
  by_cases hC : LL.CraftOk x t
  rotate_left
  · have hT : ¬ LL.CanTake x y t := fun h9 => hC h9.1
    rw [decide_eq_false hC]
    have hP9 := hO.p
    have hF9 := hO.f
    have hPX : ∀ k, Value.ownBlock (.slice A1 x.path.steps.length c1) = some k → w.heap.size + 1 + 1 + 1 < k ∧ k < gx := fun k hk => hO2 k (.inl hk)
    have hFX : ∀ k, Value.ownBlock (.slice F1 x.flown.length m1) = some k → w.heap.size + 1 + 1 + 1 < k ∧ k < gx := fun k hk => hO2 k (.inr hk)
    obtain ⟨ekX, fkX, lkX⟩ := kX.cells; obtain ⟨ekR, fkR, lkR⟩ := kR.cells; obtain ⟨ekS, fkS, lkS⟩ := kS.cells
    go_wp2_with fail
    (refine bodyPost_ret (res_cct rfl _ [.string x.name, .int .i64 x.number, .int .i64 x.no, .int .i64 x.path.q, .int .i64 x.path.s, .slice A1 x.path.steps.length c1, .int .i64 x.path.fr, .int .i64 x.path.by_, .slice F1 x.flown.length m1] [.int .i64 0, .string ⟨#[]⟩, .int .i64 0, .int .i64 0, .int .i64 0, .slice none 0 0, .int .i64 0, .int .i64 0] rfl rfl _ rfl _ _ Try.underlying74 Try.underlying46 rfl rfl (by kernel_rfl) (by kernel_rfl) (by simp only [CellsAt, and_true]; and_intros <;> go_simp) (by simp only [CellsAt, and_true]; and_intros <;> go_simp)) rfl ?_)
    rw [LL.takeC_no hT, LL.takeW_no hT, decide_eq_false hT]
    exact ⟨A1, c1, F1, m1, none, 0, rfl, ⟨(by repeat' (first | with_reducible assumption | with_reducible refine Own.s ?_ _ (fun k hk => by have := hPX k hk; (try simp only); omega) | with_reducible refine Own.a ?_ _ | with_reducible refine Own.d ?_ | with_reducible refine Own.dN ?_ _ | with_reducible refine Own.b ?_ (by with_reducible assumption))), (by repeat' (first | with_reducible assumption | with_reducible refine Own.s ?_ _ (fun k hk => by have := hFX k hk; (try simp only); omega) | with_reducible refine Own.a ?_ _ | with_reducible refine Own.d ?_ | with_reducible refine Own.dN ?_ _ | with_reducible refine Own.b ?_ (by with_reducible assumption)))⟩, OwnP.none _ _ _ _ _, fun k hk => by have := hO2 k hk; omega, fun k hk => absurd hk own_nil, fun k _ => own_nil, (by repeat' (first | with_reducible exact Below.refl _ _ | with_reducible assumption | with_reducible refine b_alloc ?_ _ | with_reducible refine b_drewN ?_ _ | with_reducible refine b_drew ?_ | with_reducible refine b_set ?_ (by first | (simp only [World.size_setCell, World.size_alloc, World.size_drew]; omega) | (simp; done) | (simp; omega)) _ | with_reducible refine b_step ?_ (by with_reducible assumption)))⟩

  have ht := hC.2.2.2.2.1
  obtain ⟨t0, t1⟩ := ht
  rw [decide_eq_true hC]
  obtain ⟨ekY, fkY, lkY⟩ := kY.cells
  go_wp2_with fail
  refine calls_name (fun W => Below W4.heap.size W4 W) (by repeat' (first | with_reducible exact Below.refl _ _ | with_reducible assumption | with_reducible refine b_alloc ?_ _ | with_reducible refine b_drewN ?_ _ | with_reducible refine b_drew ?_ | with_reducible refine b_set ?_ (by first | (simp only [World.size_setCell, World.size_alloc, World.size_drew]; omega) | (simp; done) | (simp; omega)) _ | with_reducible refine b_step ?_ (by with_reducible assumption))) ?_; intro W5 hE; clear ekY fkY lkY; replace hb := b_step hb hE; replace kC := kC.b hE; replace kY := kY.b hE; replace kR := kR.b hE; replace kS := kS.b hE; replace kX := kX.b hE; replace hO := hO.b hE; clear hE
  refine (spec_LinkWordOk_c y B d hs' _ (hy.mono hb)).mono ?_
  rintro e W6 ⟨rfl, hB⟩
  replace hb := b_step hb hB; replace kC := kC.b hB; replace kY := kY.b hB; replace kR := kR.b hB; replace kS := kS.b hB; replace kX := kX.b hB; replace hO := hO.b hB; clear hB
  by_cases hW : LL.WordOk y
  rotate_left
  · have hT : ¬ LL.CanTake x y t := fun h9 => hW h9.2.1
    rw [decide_eq_false hW]
    have hP9 := hO.p
    have hF9 := hO.f
    have hPX : ∀ k, Value.ownBlock (.slice A1 x.path.steps.length c1) = some k → w.heap.size + 1 + 1 + 1 < k ∧ k < gx := fun k hk => hO2 k (.inl hk)
    have hFX : ∀ k, Value.ownBlock (.slice F1 x.flown.length m1) = some k → w.heap.size + 1 + 1 + 1 < k ∧ k < gx := fun k hk => hO2 k (.inr hk)
    obtain ⟨ekX, fkX, lkX⟩ := kX.cells; obtain ⟨ekR, fkR, lkR⟩ := kR.cells; obtain ⟨ekS, fkS, lkS⟩ := kS.cells
    go_wp2_with fail
    (refine bodyPost_ret (res_cct rfl _ [.string x.name, .int .i64 x.number, .int .i64 x.no, .int .i64 x.path.q, .int .i64 x.path.s, .slice A1 x.path.steps.length c1, .int .i64 x.path.fr, .int .i64 x.path.by_, .slice F1 x.flown.length m1] [.int .i64 0, .string ⟨#[]⟩, .int .i64 0, .int .i64 0, .int .i64 0, .slice none 0 0, .int .i64 0, .int .i64 0] rfl rfl _ rfl _ _ Try.underlying74 Try.underlying46 rfl rfl (by kernel_rfl) (by kernel_rfl) (by simp only [CellsAt, and_true]; and_intros <;> go_simp) (by simp only [CellsAt, and_true]; and_intros <;> go_simp)) rfl ?_)
    rw [LL.takeC_no hT, LL.takeW_no hT, decide_eq_false hT]
    exact ⟨A1, c1, F1, m1, none, 0, rfl, ⟨(by repeat' (first | with_reducible assumption | with_reducible refine Own.s ?_ _ (fun k hk => by have := hPX k hk; (try simp only); omega) | with_reducible refine Own.a ?_ _ | with_reducible refine Own.d ?_ | with_reducible refine Own.dN ?_ _ | with_reducible refine Own.b ?_ (by with_reducible assumption))), (by repeat' (first | with_reducible assumption | with_reducible refine Own.s ?_ _ (fun k hk => by have := hFX k hk; (try simp only); omega) | with_reducible refine Own.a ?_ _ | with_reducible refine Own.d ?_ | with_reducible refine Own.dN ?_ _ | with_reducible refine Own.b ?_ (by with_reducible assumption)))⟩, OwnP.none _ _ _ _ _, fun k hk => by have := hO2 k hk; omega, fun k hk => absurd hk own_nil, fun k _ => own_nil, (by repeat' (first | with_reducible exact Below.refl _ _ | with_reducible assumption | with_reducible refine b_alloc ?_ _ | with_reducible refine b_drewN ?_ _ | with_reducible refine b_drew ?_ | with_reducible refine b_set ?_ (by first | (simp only [World.size_setCell, World.size_alloc, World.size_drew]; omega) | (simp; done) | (simp; omega)) _ | with_reducible refine b_step ?_ (by with_reducible assumption)))⟩

  rw [decide_eq_true hW]
  have hP9 := hO.p
  have hF9 := hO.f
  have hPX : ∀ k, Value.ownBlock (.slice A1 x.path.steps.length c1) = some k → w.heap.size + 1 + 1 + 1 < k ∧ k < gx := fun k hk => hO2 k (.inl hk)
  have hFX : ∀ k, Value.ownBlock (.slice F1 x.flown.length m1) = some k → w.heap.size + 1 + 1 + 1 < k ∧ k < gx := fun k hk => hO2 k (.inr hk)
  by_cases h1 : y.kind = 2
  rotate_left
  · have hT : ¬ LL.CanTake x y t := fun h9 => h1 h9.2.2.1
    have h1b : (y.kind != 2) = true := by simp [h1]
    obtain ⟨ekC, fkC, lkC⟩ := kC.cells; obtain ⟨ekY, fkY, lkY⟩ := kY.cells
    obtain ⟨ekX, fkX, lkX⟩ := kX.cells; obtain ⟨ekR, fkR, lkR⟩ := kR.cells; obtain ⟨ekS, fkS, lkS⟩ := kS.cells
    go_wp2_with fail
    (refine bodyPost_ret (res_cct rfl _ [.string x.name, .int .i64 x.number, .int .i64 x.no, .int .i64 x.path.q, .int .i64 x.path.s, .slice A1 x.path.steps.length c1, .int .i64 x.path.fr, .int .i64 x.path.by_, .slice F1 x.flown.length m1] [.int .i64 0, .string ⟨#[]⟩, .int .i64 0, .int .i64 0, .int .i64 0, .slice none 0 0, .int .i64 0, .int .i64 0] rfl rfl _ rfl _ _ Try.underlying74 Try.underlying46 rfl rfl (by kernel_rfl) (by kernel_rfl) (by simp only [CellsAt, and_true]; and_intros <;> go_simp) (by simp only [CellsAt, and_true]; and_intros <;> go_simp)) rfl ?_)
    rw [LL.takeC_no hT, LL.takeW_no hT, decide_eq_false hT]
    exact ⟨A1, c1, F1, m1, none, 0, rfl, ⟨(by repeat' (first | with_reducible assumption | with_reducible refine Own.s ?_ _ (fun k hk => by have := hPX k hk; (try simp only); omega) | with_reducible refine Own.a ?_ _ | with_reducible refine Own.d ?_ | with_reducible refine Own.dN ?_ _ | with_reducible refine Own.b ?_ (by with_reducible assumption))), (by repeat' (first | with_reducible assumption | with_reducible refine Own.s ?_ _ (fun k hk => by have := hFX k hk; (try simp only); omega) | with_reducible refine Own.a ?_ _ | with_reducible refine Own.d ?_ | with_reducible refine Own.dN ?_ _ | with_reducible refine Own.b ?_ (by with_reducible assumption)))⟩, OwnP.none _ _ _ _ _, fun k hk => by have := hO2 k hk; omega, fun k hk => absurd hk own_nil, fun k _ => own_nil, (by repeat' (first | with_reducible exact Below.refl _ _ | with_reducible assumption | with_reducible refine b_alloc ?_ _ | with_reducible refine b_drewN ?_ _ | with_reducible refine b_drew ?_ | with_reducible refine b_set ?_ (by first | (simp only [World.size_setCell, World.size_alloc, World.size_drew]; omega) | (simp; done) | (simp; omega)) _ | with_reducible refine b_step ?_ (by with_reducible assumption)))⟩

  have h1b : (y.kind != 2) = false := by simp [h1]
  by_cases h2 : y.name.toList = x.name.toList
  rotate_left
  · have hT : ¬ LL.CanTake x y t := fun h9 => h2 (by rw [h9.2.2.2.1])
    have h2b : (y.name.toList != x.name.toList) = true := by simp [h2]
    obtain ⟨ekC, fkC, lkC⟩ := kC.cells; obtain ⟨ekY, fkY, lkY⟩ := kY.cells
    obtain ⟨ekX, fkX, lkX⟩ := kX.cells; obtain ⟨ekR, fkR, lkR⟩ := kR.cells; obtain ⟨ekS, fkS, lkS⟩ := kS.cells
    go_wp2_with fail
    (refine bodyPost_ret (res_cct rfl _ [.string x.name, .int .i64 x.number, .int .i64 x.no, .int .i64 x.path.q, .int .i64 x.path.s, .slice A1 x.path.steps.length c1, .int .i64 x.path.fr, .int .i64 x.path.by_, .slice F1 x.flown.length m1] [.int .i64 0, .string ⟨#[]⟩, .int .i64 0, .int .i64 0, .int .i64 0, .slice none 0 0, .int .i64 0, .int .i64 0] rfl rfl _ rfl _ _ Try.underlying74 Try.underlying46 rfl rfl (by kernel_rfl) (by kernel_rfl) (by simp only [CellsAt, and_true]; and_intros <;> go_simp) (by simp only [CellsAt, and_true]; and_intros <;> go_simp)) rfl ?_)
    rw [LL.takeC_no hT, LL.takeW_no hT, decide_eq_false hT]
    exact ⟨A1, c1, F1, m1, none, 0, rfl, ⟨(by repeat' (first | with_reducible assumption | with_reducible refine Own.s ?_ _ (fun k hk => by have := hPX k hk; (try simp only); omega) | with_reducible refine Own.a ?_ _ | with_reducible refine Own.d ?_ | with_reducible refine Own.dN ?_ _ | with_reducible refine Own.b ?_ (by with_reducible assumption))), (by repeat' (first | with_reducible assumption | with_reducible refine Own.s ?_ _ (fun k hk => by have := hFX k hk; (try simp only); omega) | with_reducible refine Own.a ?_ _ | with_reducible refine Own.d ?_ | with_reducible refine Own.dN ?_ _ | with_reducible refine Own.b ?_ (by with_reducible assumption)))⟩, OwnP.none _ _ _ _ _, fun k hk => by have := hO2 k hk; omega, fun k hk => absurd hk own_nil, fun k _ => own_nil, (by repeat' (first | with_reducible exact Below.refl _ _ | with_reducible assumption | with_reducible refine b_alloc ?_ _ | with_reducible refine b_drewN ?_ _ | with_reducible refine b_drew ?_ | with_reducible refine b_set ?_ (by first | (simp only [World.size_setCell, World.size_alloc, World.size_drew]; omega) | (simp; done) | (simp; omega)) _ | with_reducible refine b_step ?_ (by with_reducible assumption)))⟩

  have h2b : (y.name.toList != x.name.toList) = false := by simp [h2]
  by_cases h3 : x.number ≤ y.number
  rotate_left
  · have hT : ¬ LL.CanTake x y t := fun h9 => h3 h9.2.2.2.2
    obtain ⟨ekC, fkC, lkC⟩ := kC.cells; obtain ⟨ekY, fkY, lkY⟩ := kY.cells
    obtain ⟨ekX, fkX, lkX⟩ := kX.cells; obtain ⟨ekR, fkR, lkR⟩ := kR.cells; obtain ⟨ekS, fkS, lkS⟩ := kS.cells
    go_wp2_with fail
    (refine bodyPost_ret (res_cct rfl _ [.string x.name, .int .i64 x.number, .int .i64 x.no, .int .i64 x.path.q, .int .i64 x.path.s, .slice A1 x.path.steps.length c1, .int .i64 x.path.fr, .int .i64 x.path.by_, .slice F1 x.flown.length m1] [.int .i64 0, .string ⟨#[]⟩, .int .i64 0, .int .i64 0, .int .i64 0, .slice none 0 0, .int .i64 0, .int .i64 0] rfl rfl _ rfl _ _ Try.underlying74 Try.underlying46 rfl rfl (by kernel_rfl) (by kernel_rfl) (by simp only [CellsAt, and_true]; and_intros <;> go_simp) (by simp only [CellsAt, and_true]; and_intros <;> go_simp)) rfl ?_)
    rw [LL.takeC_no hT, LL.takeW_no hT, decide_eq_false hT]
    exact ⟨A1, c1, F1, m1, none, 0, rfl, ⟨(by repeat' (first | with_reducible assumption | with_reducible refine Own.s ?_ _ (fun k hk => by have := hPX k hk; (try simp only); omega) | with_reducible refine Own.a ?_ _ | with_reducible refine Own.d ?_ | with_reducible refine Own.dN ?_ _ | with_reducible refine Own.b ?_ (by with_reducible assumption))), (by repeat' (first | with_reducible assumption | with_reducible refine Own.s ?_ _ (fun k hk => by have := hFX k hk; (try simp only); omega) | with_reducible refine Own.a ?_ _ | with_reducible refine Own.d ?_ | with_reducible refine Own.dN ?_ _ | with_reducible refine Own.b ?_ (by with_reducible assumption)))⟩, OwnP.none _ _ _ _ _, fun k hk => by have := hO2 k hk; omega, fun k hk => absurd hk own_nil, fun k _ => own_nil, (by repeat' (first | with_reducible exact Below.refl _ _ | with_reducible assumption | with_reducible refine b_alloc ?_ _ | with_reducible refine b_drewN ?_ _ | with_reducible refine b_drew ?_ | with_reducible refine b_set ?_ (by first | (simp only [World.size_setCell, World.size_alloc, World.size_drew]; omega) | (simp; done) | (simp; omega)) _ | with_reducible refine b_step ?_ (by with_reducible assumption)))⟩

  have hT : LL.CanTake x y t := ⟨hC, hW, h1, baEq h2, h3⟩
  have lkX6 := kX.cells.2.2
  by_cases h4 : y.number = x.number
  · have h4b : (y.number == x.number) = true := by simp [h4]
    have H4 := Lib.hid h4
    clear h4
    obtain ⟨ekC, fkC, lkC⟩ := kC.cells; obtain ⟨ekY, fkY, lkY⟩ := kY.cells
    go_wp2_with fail
    refine wp_name (fun W => Below W6.heap.size W6 W ∧ Blk W W6.heap.size #[.int .i64 3, .string x.name, .int .i64 y.number, .int .i64 0, .int .i64 0, .slice none 0 0, .int .i64 0, .int .i64 0] 46) ⟨(by repeat' (first | with_reducible exact Below.refl _ _ | with_reducible assumption | with_reducible refine b_alloc ?_ _ | with_reducible refine b_drewN ?_ _ | with_reducible refine b_drew ?_ | with_reducible refine b_set ?_ (by first | (simp only [World.size_setCell, World.size_alloc, World.size_drew]; omega) | (simp; done) | (simp; omega)) _ | with_reducible refine b_step ?_ (by with_reducible assumption))), Blk.new _ _ _⟩ ?_
    rintro W7 ⟨hE, kA⟩
    have hga : gx < W6.heap.size := lkX6
    clear ekC fkC lkC ekY fkY lkY
    replace hb := b_step hb hE; replace kR := kR.b hE; replace kS := kS.b hE; replace kX := kX.b hE; replace hO := hO.b hE; replace hP9 := hP9.b hE; replace hF9 := hF9.b hE; clear hE
    generalize W6.heap.size = ga at *
    obtain ⟨ekX, fkX, lkX⟩ := kX.cells; obtain ⟨ekR, fkR, lkR⟩ := kR.cells; obtain ⟨ekS, fkS, lkS⟩ := kS.cells; obtain ⟨ekA, fkA, lkA⟩ := kA.cells
    go_region
    go_wp2_with fail
    (refine bodyPost_ret (res_cct rfl _ [.string x.name, .int .i64 x.number, .int .i64 x.no, .int .i64 x.path.q, .int .i64 x.path.s, .slice A1 x.path.steps.length c1, .int .i64 x.path.fr, .int .i64 x.path.by_, .slice F1 x.flown.length m1] [.int .i64 3, .string x.name, .int .i64 y.number, .int .i64 0, .int .i64 0, .slice none 0 0, .int .i64 0, .int .i64 0] rfl rfl _ rfl _ _ Try.underlying74 Try.underlying46 rfl rfl (by kernel_rfl) (by kernel_rfl) (by simp only [CellsAt, and_true]; and_intros <;> go_simp) (by simp only [CellsAt, and_true]; and_intros <;> go_simp)) rfl ?_)
    rw [LL.takeC_same H4.out, LL.takeW_same hT H4.out, decide_eq_true hT]
    exact ⟨A1, c1, F1, m1, none, 0, rfl, ⟨(by repeat' (first | with_reducible assumption | with_reducible refine Own.s ?_ _ (fun k hk => by have := hPX k hk; (try simp only); omega) | with_reducible refine Own.a ?_ _ | with_reducible refine Own.d ?_ | with_reducible refine Own.dN ?_ _ | with_reducible refine Own.b ?_ (by with_reducible assumption))), (by repeat' (first | with_reducible assumption | with_reducible refine Own.s ?_ _ (fun k hk => by have := hFX k hk; (try simp only); omega) | with_reducible refine Own.a ?_ _ | with_reducible refine Own.d ?_ | with_reducible refine Own.dN ?_ _ | with_reducible refine Own.b ?_ (by with_reducible assumption)))⟩, OwnP.none _ _ _ _ _, fun k hk => by have := hO2 k hk; omega, fun k hk => absurd hk own_nil, fun k _ => own_nil, (by repeat' (first | with_reducible exact Below.refl _ _ | with_reducible assumption | with_reducible refine b_alloc ?_ _ | with_reducible refine b_drewN ?_ _ | with_reducible refine b_drew ?_ | with_reducible refine b_set ?_ (by first | (simp only [World.size_setCell, World.size_alloc, World.size_drew]; omega) | (simp; done) | (simp; omega)) _ | with_reducible refine b_step ?_ (by with_reducible assumption)))⟩
  have h4b : (y.number == x.number) = false := by simp [h4]
  have H4 := Lib.hid h4
  clear h4
  by_cases h5 : y.number ≤ x.no
  · have hY : ¬ LL.Yields x y t := fun h9 => absurd h9.1 (by omega)
    have HY := Lib.hid hY
    clear hY
    obtain ⟨ekC, fkC, lkC⟩ := kC.cells; obtain ⟨ekY, fkY, lkY⟩ := kY.cells; obtain ⟨ekX, fkX, lkX⟩ := kX.cells
    go_wp2_with fail
    refine wp_name (fun W => Below W6.heap.size W6 W ∧ Blk W W6.heap.size #[.int .i64 4, .string x.name, .int .i64 y.number, .int .i64 0, .int .i64 0, .slice none 0 0, .int .i64 0, .int .i64 0] 46) ⟨(by repeat' (first | with_reducible exact Below.refl _ _ | with_reducible assumption | with_reducible refine b_alloc ?_ _ | with_reducible refine b_drewN ?_ _ | with_reducible refine b_drew ?_ | with_reducible refine b_set ?_ (by first | (simp only [World.size_setCell, World.size_alloc, World.size_drew]; omega) | (simp; done) | (simp; omega)) _ | with_reducible refine b_step ?_ (by with_reducible assumption))), Blk.new _ _ _⟩ ?_
    rintro W7 ⟨hE, kA⟩
    have hga : gx < W6.heap.size := lkX6
    clear ekC fkC lkC ekY fkY lkY ekX fkX lkX
    replace hb := b_step hb hE; replace kC := kC.b hE; replace kY := kY.b hE; replace kR := kR.b hE; replace kS := kS.b hE; replace kX := kX.b hE; replace hO := hO.b hE; replace hP9 := hP9.b hE; replace hF9 := hF9.b hE; clear hE
    generalize W6.heap.size = ga at *
    obtain ⟨ekX, fkX, lkX⟩ := kX.cells; obtain ⟨ekA, fkA, lkA⟩ := kA.cells; obtain ⟨ekR, fkR, lkR⟩ := kR.cells; obtain ⟨ekS, fkS, lkS⟩ := kS.cells
    go_region
    go_wp2_with fail
    (refine bodyPost_ret (res_cct rfl _ [.string x.name, .int .i64 x.number, .int .i64 x.no, .int .i64 x.path.q, .int .i64 x.path.s, .slice A1 x.path.steps.length c1, .int .i64 x.path.fr, .int .i64 x.path.by_, .slice F1 x.flown.length m1] [.int .i64 4, .string x.name, .int .i64 y.number, .int .i64 0, .int .i64 0, .slice none 0 0, .int .i64 0, .int .i64 0] rfl rfl _ rfl _ _ Try.underlying74 Try.underlying46 rfl rfl (by kernel_rfl) (by kernel_rfl) (by simp only [CellsAt, and_true]; and_intros <;> go_simp) (by simp only [CellsAt, and_true]; and_intros <;> go_simp)) rfl ?_)
    rw [LL.takeC_off hT H4.out HY.out, LL.takeW_off hT H4.out HY.out, decide_eq_true hT, show max x.no y.number = x.no by omega]
    exact ⟨A1, c1, F1, m1, none, 0, rfl, ⟨(by repeat' (first | with_reducible assumption | with_reducible refine Own.s ?_ _ (fun k hk => by have := hPX k hk; (try simp only); omega) | with_reducible refine Own.a ?_ _ | with_reducible refine Own.d ?_ | with_reducible refine Own.dN ?_ _ | with_reducible refine Own.b ?_ (by with_reducible assumption))), (by repeat' (first | with_reducible assumption | with_reducible refine Own.s ?_ _ (fun k hk => by have := hFX k hk; (try simp only); omega) | with_reducible refine Own.a ?_ _ | with_reducible refine Own.d ?_ | with_reducible refine Own.dN ?_ _ | with_reducible refine Own.b ?_ (by with_reducible assumption)))⟩, OwnP.none _ _ _ _ _, fun k hk => by have := hO2 k hk; omega, fun k hk => absurd hk own_nil, fun k _ => own_nil, (by repeat' (first | with_reducible exact Below.refl _ _ | with_reducible assumption | with_reducible refine b_alloc ?_ _ | with_reducible refine b_drewN ?_ _ | with_reducible refine b_drew ?_ | with_reducible refine b_set ?_ (by first | (simp only [World.size_setCell, World.size_alloc, World.size_drew]; omega) | (simp; done) | (simp; omega)) _ | with_reducible refine b_step ?_ (by with_reducible assumption)))⟩
  obtain ⟨ekC, fkC, lkC⟩ := kC.cells; obtain ⟨ekY, fkY, lkY⟩ := kY.cells
  go_wp2_with fail
  refine calls_name (fun W => Below W6.heap.size W6 W ∧ Blk W W6.heap.size #[.int .i64 3, .string x.name, .int .i64 y.number, .int .i64 0, .int .i64 0, .slice none 0 0, .int .i64 0, .int .i64 0] 46) ⟨(by repeat' (first | with_reducible exact Below.refl _ _ | with_reducible assumption | with_reducible refine b_alloc ?_ _ | with_reducible refine b_drewN ?_ _ | with_reducible refine b_drew ?_ | with_reducible refine b_set ?_ (by first | (simp only [World.size_setCell, World.size_alloc, World.size_drew]; omega) | (simp; done) | (simp; omega)) _ | with_reducible refine b_step ?_ (by with_reducible assumption))), Blk.new _ _ _⟩ ?_
  rintro W71 ⟨hE, kA⟩
  have hga : gx < W6.heap.size := lkX6
  clear ekC fkC lkC ekY fkY lkY
  replace hb := b_step hb hE; replace kC := kC.b hE; replace kY := kY.b hE; replace kR := kR.b hE; replace kS := kS.b hE; replace kX := kX.b hE; replace hO := hO.b hE; replace hP9 := hP9.b hE; replace hF9 := hF9.b hE; clear hE
  generalize W6.heap.size = ga at *
  refine (spec_l22Can_c x A F c m y.path B d t _ t0 t1 (h.mono hb) (hF.mono hb) (hy.mono hb)).mono ?_
  rintro e W8 ⟨rfl, hB⟩
  replace hb := b_step hb hB; replace kC := kC.b hB; replace kY := kY.b hB; replace kR := kR.b hB; replace kS := kS.b hB; replace kX := kX.b hB; replace kA := kA.b hB; replace hO := hO.b hB; replace hP9 := hP9.b hB; replace hF9 := hF9.b hB; clear hB
  by_cases hA : LL.Along x y.path t
  · rw [decide_eq_true hA]
    have hY : LL.Yields x y t := ⟨by omega, hA⟩
    have HY := Lib.hid hY
    clear hY
    obtain ⟨ekC, fkC, lkC⟩ := kC.cells; obtain ⟨ekY, fkY, lkY⟩ := kY.cells; obtain ⟨ekX, fkX, lkX⟩ := kX.cells
    go_wp2_with fail
    refine calls_name (fun W => Below w.heap.size w W ∧ Blk W w.heap.size #[.string x.name, .int .i64 x.number, .int .i64 x.no, .int .i64 x.path.q, .int .i64 x.path.s, .slice A x.path.steps.length c, .int .i64 x.path.fr, .int .i64 x.path.by_, .slice F x.flown.length m] 74 ∧ Blk W (w.heap.size + 1) #[.int .i64 y.kind, .string y.name, .int .i64 y.number, .int .i64 y.path.q, .int .i64 y.path.s, .slice B y.path.steps.length d, .int .i64 y.path.fr, .int .i64 y.path.by_] 46 ∧ Blk W gx #[.string x.name, .int .i64 y.number, .int .i64 x.no, .int .i64 x.path.q, .int .i64 x.path.s, .slice A1 x.path.steps.length c1, .int .i64 x.path.fr, .int .i64 x.path.by_, .slice F1 x.flown.length m1] 74 ∧ Blk W ga #[.int .i64 3, .string x.name, .int .i64 y.number, .int .i64 0, .int .i64 0, .slice none 0 0, .int .i64 0, .int .i64 0] 46 ∧ Blk W (w.heap.size + 1 + 1) #[.string ⟨#[]⟩, .int .i64 0, .int .i64 0, .int .i64 0, .int .i64 0, .slice none 0 0, .int .i64 0, .int .i64 0, .slice none 0 0] 74 ∧ Blk W (w.heap.size + 1 + 1 + 1) #[.int .i64 0, .string ⟨#[]⟩, .int .i64 0, .int .i64 0, .int .i64 0, .slice none 0 0, .int .i64 0, .int .i64 0] 46 ∧ Own intC 1 8 3 W (.slice F1 x.flown.length m1) x.flown) ⟨(by repeat' (first | with_reducible exact Below.refl _ _ | with_reducible assumption | with_reducible refine b_alloc ?_ _ | with_reducible refine b_drewN ?_ _ | with_reducible refine b_drew ?_ | with_reducible refine b_set ?_ (by first | (simp only [World.size_setCell, World.size_alloc, World.size_drew]; omega) | (simp; done) | (simp; omega)) _ | with_reducible refine b_step ?_ (by with_reducible assumption))), (by repeat' (first | with_reducible assumption | with_reducible exact Blk.new _ _ _ | with_reducible exact Blk.new' _ _ (by first | (simp only [World.size_alloc, World.size_setCell, World.size_drew]; done) | (simp only [World.size_alloc, World.size_setCell, World.size_drew]; omega) | omega) | with_reducible refine Blk.a ?_ _ | with_reducible refine Blk.d ?_ | with_reducible refine Blk.dN ?_ _ | with_reducible refine Blk.s ?_ (by simp only [ne_eq]; omega) _ | with_reducible refine Blk.b ?_ (by with_reducible assumption))), (by repeat' (first | with_reducible assumption | with_reducible exact Blk.new _ _ _ | with_reducible exact Blk.new' _ _ (by first | (simp only [World.size_alloc, World.size_setCell, World.size_drew]; done) | (simp only [World.size_alloc, World.size_setCell, World.size_drew]; omega) | omega) | with_reducible refine Blk.a ?_ _ | with_reducible refine Blk.d ?_ | with_reducible refine Blk.dN ?_ _ | with_reducible refine Blk.s ?_ (by simp only [ne_eq]; omega) _ | with_reducible refine Blk.b ?_ (by with_reducible assumption))), by simpa using (kX.put 1 (.int .i64 y.number)), (by repeat' (first | with_reducible assumption | with_reducible exact Blk.new _ _ _ | with_reducible exact Blk.new' _ _ (by first | (simp only [World.size_alloc, World.size_setCell, World.size_drew]; done) | (simp only [World.size_alloc, World.size_setCell, World.size_drew]; omega) | omega) | with_reducible refine Blk.a ?_ _ | with_reducible refine Blk.d ?_ | with_reducible refine Blk.dN ?_ _ | with_reducible refine Blk.s ?_ (by simp only [ne_eq]; omega) _ | with_reducible refine Blk.b ?_ (by with_reducible assumption))), (by repeat' (first | with_reducible assumption | with_reducible exact Blk.new _ _ _ | with_reducible exact Blk.new' _ _ (by first | (simp only [World.size_alloc, World.size_setCell, World.size_drew]; done) | (simp only [World.size_alloc, World.size_setCell, World.size_drew]; omega) | omega) | with_reducible refine Blk.a ?_ _ | with_reducible refine Blk.d ?_ | with_reducible refine Blk.dN ?_ _ | with_reducible refine Blk.s ?_ (by simp only [ne_eq]; omega) _ | with_reducible refine Blk.b ?_ (by with_reducible assumption))), (by repeat' (first | with_reducible assumption | with_reducible exact Blk.new _ _ _ | with_reducible exact Blk.new' _ _ (by first | (simp only [World.size_alloc, World.size_setCell, World.size_drew]; done) | (simp only [World.size_alloc, World.size_setCell, World.size_drew]; omega) | omega) | with_reducible refine Blk.a ?_ _ | with_reducible refine Blk.d ?_ | with_reducible refine Blk.dN ?_ _ | with_reducible refine Blk.s ?_ (by simp only [ne_eq]; omega) _ | with_reducible refine Blk.b ?_ (by with_reducible assumption))), (by repeat' (first | with_reducible assumption | with_reducible refine Own.s ?_ _ (fun k hk => by have := hFX k hk; (try simp only); omega) | with_reducible refine Own.a ?_ _ | with_reducible refine Own.d ?_ | with_reducible refine Own.dN ?_ _ | with_reducible refine Own.b ?_ (by with_reducible assumption)))⟩ ?_
    clear hb
    clear ekC fkC lkC ekY fkY lkY ekX fkX lkX
    clear kC kY kX kA kR kS hP9 hF9 hO
    rintro W9 ⟨hb, kC, kY, kX, kA, kR, kS, hF9⟩
    have hgz := kA.cells.2.2
    refine (spec_l2Copy_c y.path B d _ (hy.mono hb)).mono ?_
    intro e W10 hM
    obtain ⟨A2, c2, rfl, hP, hPg, hB⟩ := hM.gop
    have hPz : ∀ j, Value.ownBlock (.slice A2 y.path.steps.length c2) = some j → ga < j := fun j hj => by have := hPg j hj; omega
    clear hPg hM
    replace hb := b_step hb hB; replace kC := kC.b hB; replace kY := kY.b hB; replace kX := kX.b hB; replace kA := kA.b hB; replace kR := kR.b hB; replace kS := kS.b hB; replace hF9 := hF9.b hB; clear hB
    obtain ⟨ekX, fkX, lkX⟩ := kX.cells
    go_wp2_with fail
    refine wp_name (fun W => Below w.heap.size w W ∧ Blk W gx #[.string x.name, .int .i64 y.number, .int .i64 x.no, .int .i64 y.path.q, .int .i64 y.path.s, .slice A2 y.path.steps.length c2, .int .i64 y.path.fr, .int .i64 y.path.by_, .slice F1 x.flown.length m1] 74 ∧ Blk W ga #[.int .i64 3, .string x.name, .int .i64 y.number, .int .i64 0, .int .i64 0, .slice none 0 0, .int .i64 0, .int .i64 0] 46 ∧ Blk W (w.heap.size + 1 + 1) #[.string ⟨#[]⟩, .int .i64 0, .int .i64 0, .int .i64 0, .int .i64 0, .slice none 0 0, .int .i64 0, .int .i64 0, .slice none 0 0] 74 ∧ Blk W (w.heap.size + 1 + 1 + 1) #[.int .i64 0, .string ⟨#[]⟩, .int .i64 0, .int .i64 0, .int .i64 0, .slice none 0 0, .int .i64 0, .int .i64 0] 46 ∧ OwnP W A2 c2 y.path ∧ Own intC 1 8 3 W (.slice F1 x.flown.length m1) x.flown) ⟨(by repeat' (first | with_reducible exact Below.refl _ _ | with_reducible assumption | with_reducible refine b_alloc ?_ _ | with_reducible refine b_drewN ?_ _ | with_reducible refine b_drew ?_ | with_reducible refine b_set ?_ (by first | (simp only [World.size_setCell, World.size_alloc, World.size_drew]; omega) | (simp; done) | (simp; omega)) _ | with_reducible refine b_step ?_ (by with_reducible assumption))), (by simpa using (((((kX.put 3 (.int .i64 y.path.q)).put 4 (.int .i64 y.path.s)).put 5 (.slice A2 y.path.steps.length c2)).put 6 (.int .i64 y.path.fr)).put 7 (.int .i64 y.path.by_))), (by repeat' (first | with_reducible assumption | with_reducible exact Blk.new _ _ _ | with_reducible exact Blk.new' _ _ (by first | (simp only [World.size_alloc, World.size_setCell, World.size_drew]; done) | (simp only [World.size_alloc, World.size_setCell, World.size_drew]; omega) | omega) | with_reducible refine Blk.a ?_ _ | with_reducible refine Blk.d ?_ | with_reducible refine Blk.dN ?_ _ | with_reducible refine Blk.s ?_ (by simp only [ne_eq]; omega) _ | with_reducible refine Blk.b ?_ (by with_reducible assumption))), (by repeat' (first | with_reducible assumption | with_reducible exact Blk.new _ _ _ | with_reducible exact Blk.new' _ _ (by first | (simp only [World.size_alloc, World.size_setCell, World.size_drew]; done) | (simp only [World.size_alloc, World.size_setCell, World.size_drew]; omega) | omega) | with_reducible refine Blk.a ?_ _ | with_reducible refine Blk.d ?_ | with_reducible refine Blk.dN ?_ _ | with_reducible refine Blk.s ?_ (by simp only [ne_eq]; omega) _ | with_reducible refine Blk.b ?_ (by with_reducible assumption))), (by repeat' (first | with_reducible assumption | with_reducible exact Blk.new _ _ _ | with_reducible exact Blk.new' _ _ (by first | (simp only [World.size_alloc, World.size_setCell, World.size_drew]; done) | (simp only [World.size_alloc, World.size_setCell, World.size_drew]; omega) | omega) | with_reducible refine Blk.a ?_ _ | with_reducible refine Blk.d ?_ | with_reducible refine Blk.dN ?_ _ | with_reducible refine Blk.s ?_ (by simp only [ne_eq]; omega) _ | with_reducible refine Blk.b ?_ (by with_reducible assumption))), (by repeat' (first | with_reducible assumption | with_reducible refine Own.s ?_ _ (fun k hk => by have := hPz k hk; (try simp only); omega) | with_reducible refine Own.a ?_ _ | with_reducible refine Own.d ?_ | with_reducible refine Own.dN ?_ _ | with_reducible refine Own.b ?_ (by with_reducible assumption))), (by repeat' (first | with_reducible assumption | with_reducible refine Own.s ?_ _ (fun k hk => by have := hFX k hk; (try simp only); omega) | with_reducible refine Own.a ?_ _ | with_reducible refine Own.d ?_ | with_reducible refine Own.dN ?_ _ | with_reducible refine Own.b ?_ (by with_reducible assumption)))⟩ ?_
    clear hb
    clear ekX fkX lkX
    clear kX kA kR kS hP hF9
    rintro W20 ⟨hb, kX, kA, kR, kS, hP9, hF9⟩
    obtain ⟨ekX, fkX, lkX⟩ := kX.cells; obtain ⟨ekA, fkA, lkA⟩ := kA.cells; obtain ⟨ekR, fkR, lkR⟩ := kR.cells; obtain ⟨ekS, fkS, lkS⟩ := kS.cells
    go_region
    go_wp2_with fail
    (refine bodyPost_ret (res_cct rfl _ [.string x.name, .int .i64 y.number, .int .i64 x.no, .int .i64 y.path.q, .int .i64 y.path.s, .slice A2 y.path.steps.length c2, .int .i64 y.path.fr, .int .i64 y.path.by_, .slice F1 x.flown.length m1] [.int .i64 3, .string x.name, .int .i64 y.number, .int .i64 0, .int .i64 0, .slice none 0 0, .int .i64 0, .int .i64 0] rfl rfl _ rfl _ _ Try.underlying74 Try.underlying46 rfl rfl (by kernel_rfl) (by kernel_rfl) (by simp only [CellsAt, and_true]; and_intros <;> go_simp) (by simp only [CellsAt, and_true]; and_intros <;> go_simp)) rfl ?_)
    rw [LL.takeC_yes hT H4.out HY.out, LL.takeW_yes hT HY.out, decide_eq_true hT]
    exact ⟨A2, c2, F1, m1, none, 0, rfl, ⟨(by repeat' (first | with_reducible assumption | with_reducible refine Own.s ?_ _ (fun k hk => by have := hPz k hk; (try simp only); omega) | with_reducible refine Own.a ?_ _ | with_reducible refine Own.d ?_ | with_reducible refine Own.dN ?_ _ | with_reducible refine Own.b ?_ (by with_reducible assumption))), (by repeat' (first | with_reducible assumption | with_reducible refine Own.s ?_ _ (fun k hk => by have := hFX k hk; (try simp only); omega) | with_reducible refine Own.a ?_ _ | with_reducible refine Own.d ?_ | with_reducible refine Own.dN ?_ _ | with_reducible refine Own.b ?_ (by with_reducible assumption)))⟩, OwnP.none _ _ _ _ _, fun k hk => hk.elim (fun hk => by have := hPz k hk; omega) (fun hk => by have := hFX k hk; omega), fun k hk => absurd hk own_nil, fun k _ => own_nil, (by repeat' (first | with_reducible exact Below.refl _ _ | with_reducible assumption | with_reducible refine b_alloc ?_ _ | with_reducible refine b_drewN ?_ _ | with_reducible refine b_drew ?_ | with_reducible refine b_set ?_ (by first | (simp only [World.size_setCell, World.size_alloc, World.size_drew]; omega) | (simp; done) | (simp; omega)) _ | with_reducible refine b_step ?_ (by with_reducible assumption)))⟩
  · rw [decide_eq_false hA]
    have hY : ¬ LL.Yields x y t := fun h9 => hA h9.2
    have HY := Lib.hid hY
    clear hY
    obtain ⟨ekC, fkC, lkC⟩ := kC.cells; obtain ⟨ekY, fkY, lkY⟩ := kY.cells; obtain ⟨ekX, fkX, lkX⟩ := kX.cells; obtain ⟨ekA, fkA, lkA⟩ := kA.cells; obtain ⟨ekR, fkR, lkR⟩ := kR.cells; obtain ⟨ekS, fkS, lkS⟩ := kS.cells
    go_wp2_with fail
    refine wp_name (fun W => Below w.heap.size w W ∧ Blk W gx #[.string x.name, .int .i64 x.number, .int .i64 y.number, .int .i64 x.path.q, .int .i64 x.path.s, .slice A1 x.path.steps.length c1, .int .i64 x.path.fr, .int .i64 x.path.by_, .slice F1 x.flown.length m1] 74 ∧ Blk W ga #[.int .i64 4, .string x.name, .int .i64 y.number, .int .i64 0, .int .i64 0, .slice none 0 0, .int .i64 0, .int .i64 0] 46 ∧ Blk W (w.heap.size + 1 + 1) #[.string ⟨#[]⟩, .int .i64 0, .int .i64 0, .int .i64 0, .int .i64 0, .slice none 0 0, .int .i64 0, .int .i64 0, .slice none 0 0] 74 ∧ Blk W (w.heap.size + 1 + 1 + 1) #[.int .i64 0, .string ⟨#[]⟩, .int .i64 0, .int .i64 0, .int .i64 0, .slice none 0 0, .int .i64 0, .int .i64 0] 46 ∧ OwnP W A1 c1 x.path ∧ Own intC 1 8 3 W (.slice F1 x.flown.length m1) x.flown) ⟨(by repeat' (first | with_reducible exact Below.refl _ _ | with_reducible assumption | with_reducible refine b_alloc ?_ _ | with_reducible refine b_drewN ?_ _ | with_reducible refine b_drew ?_ | with_reducible refine b_set ?_ (by first | (simp only [World.size_setCell, World.size_alloc, World.size_drew]; omega) | (simp; done) | (simp; omega)) _ | with_reducible refine b_step ?_ (by with_reducible assumption))), (by simpa using (kX.s (p := ⟨ga, 0, none⟩) (by simp only [ne_eq]; omega) (.int .i64 4)).put 2 (.int .i64 y.number)), (by simpa using (kA.put 0 (.int .i64 4)).s (p := ⟨gx, 2, none⟩) (by simp only [ne_eq]; omega) (.int .i64 y.number)), (by repeat' (first | with_reducible assumption | with_reducible exact Blk.new _ _ _ | with_reducible exact Blk.new' _ _ (by first | (simp only [World.size_alloc, World.size_setCell, World.size_drew]; done) | (simp only [World.size_alloc, World.size_setCell, World.size_drew]; omega) | omega) | with_reducible refine Blk.a ?_ _ | with_reducible refine Blk.d ?_ | with_reducible refine Blk.dN ?_ _ | with_reducible refine Blk.s ?_ (by simp only [ne_eq]; omega) _ | with_reducible refine Blk.b ?_ (by with_reducible assumption))), (by repeat' (first | with_reducible assumption | with_reducible exact Blk.new _ _ _ | with_reducible exact Blk.new' _ _ (by first | (simp only [World.size_alloc, World.size_setCell, World.size_drew]; done) | (simp only [World.size_alloc, World.size_setCell, World.size_drew]; omega) | omega) | with_reducible refine Blk.a ?_ _ | with_reducible refine Blk.d ?_ | with_reducible refine Blk.dN ?_ _ | with_reducible refine Blk.s ?_ (by simp only [ne_eq]; omega) _ | with_reducible refine Blk.b ?_ (by with_reducible assumption))), (by repeat' (first | with_reducible assumption | with_reducible refine Own.s ?_ _ (fun k hk => by have := hPX k hk; (try simp only); omega) | with_reducible refine Own.a ?_ _ | with_reducible refine Own.d ?_ | with_reducible refine Own.dN ?_ _ | with_reducible refine Own.b ?_ (by with_reducible assumption))), (by repeat' (first | with_reducible assumption | with_reducible refine Own.s ?_ _ (fun k hk => by have := hFX k hk; (try simp only); omega) | with_reducible refine Own.a ?_ _ | with_reducible refine Own.d ?_ | with_reducible refine Own.dN ?_ _ | with_reducible refine Own.b ?_ (by with_reducible assumption)))⟩ ?_
    clear hb
    clear ekC fkC lkC ekY fkY lkY ekX fkX lkX ekA fkA lkA ekR fkR lkR ekS fkS lkS
    clear kX kA kR kS hP9 hF9 hO
    rintro W20 ⟨hb, kX, kA, kR, kS, hP9, hF9⟩
    obtain ⟨ekX, fkX, lkX⟩ := kX.cells; obtain ⟨ekA, fkA, lkA⟩ := kA.cells; obtain ⟨ekR, fkR, lkR⟩ := kR.cells; obtain ⟨ekS, fkS, lkS⟩ := kS.cells
    go_region
    go_wp2_with fail
    (refine bodyPost_ret (res_cct rfl _ [.string x.name, .int .i64 x.number, .int .i64 y.number, .int .i64 x.path.q, .int .i64 x.path.s, .slice A1 x.path.steps.length c1, .int .i64 x.path.fr, .int .i64 x.path.by_, .slice F1 x.flown.length m1] [.int .i64 4, .string x.name, .int .i64 y.number, .int .i64 0, .int .i64 0, .slice none 0 0, .int .i64 0, .int .i64 0] rfl rfl _ rfl _ _ Try.underlying74 Try.underlying46 rfl rfl (by kernel_rfl) (by kernel_rfl) (by simp only [CellsAt, and_true]; and_intros <;> go_simp) (by simp only [CellsAt, and_true]; and_intros <;> go_simp)) rfl ?_)
    rw [LL.takeC_off hT H4.out HY.out, LL.takeW_off hT H4.out HY.out, decide_eq_true hT, show max x.no y.number = y.number by omega]
    exact ⟨A1, c1, F1, m1, none, 0, rfl, ⟨(by repeat' (first | with_reducible assumption | with_reducible refine Own.s ?_ _ (fun k hk => by have := hPX k hk; (try simp only); omega) | with_reducible refine Own.a ?_ _ | with_reducible refine Own.d ?_ | with_reducible refine Own.dN ?_ _ | with_reducible refine Own.b ?_ (by with_reducible assumption))), (by repeat' (first | with_reducible assumption | with_reducible refine Own.s ?_ _ (fun k hk => by have := hFX k hk; (try simp only); omega) | with_reducible refine Own.a ?_ _ | with_reducible refine Own.d ?_ | with_reducible refine Own.dN ?_ _ | with_reducible refine Own.b ?_ (by with_reducible assumption)))⟩, OwnP.none _ _ _ _ _, fun k hk => by have := hO2 k hk; omega, fun k hk => absurd hk own_nil, fun k _ => own_nil, (by repeat' (first | with_reducible exact Below.refl _ _ | with_reducible assumption | with_reducible refine b_alloc ?_ _ | with_reducible refine b_drewN ?_ _ | with_reducible refine b_drew ?_ | with_reducible refine b_set ?_ (by first | (simp only [World.size_setCell, World.size_alloc, World.size_drew]; omega) | (simp; done) | (simp; omega)) _ | with_reducible refine b_step ?_ (by with_reducible assumption)))⟩
end Go.Proofs.Ytkpnjnkfbhomgaa
