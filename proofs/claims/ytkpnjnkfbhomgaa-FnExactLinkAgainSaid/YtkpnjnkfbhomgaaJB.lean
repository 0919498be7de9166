/- Words: names, paths that are flown or none, LinkWordOk of the program and of the reference. -/
import Derived.Test.YtkpnjnkfbhomgaaJA
import Derived.Test.YtkpnjnkfbhomgaaJ6
import Derived.Test.YtkpnjnkfbhomgaaJ9
import Derived.Test.YtkpnjnkfbhomgaaJ8
import Derived.Test.YtkpnjnkfbhomgaaJ4

set_option linter.unusedVariables false
set_option linter.unusedSimpArgs false
namespace Go.Proofs.Ytkpnjnkfbhomgaa
open Go.RowKit
attribute [local go_sem] w_lt_add w_le_of w_le_add max2_i min2_i ite_max ite_min
theorem rd_nil {α : Type} {enc : α → List Value} {sz bytes : Nat} {w : World} (A : Option Addr) : Rd enc sz bytes w A 0 0 ([] : List α) := ⟨rfl, Nat.le_refl _, by simp, fun h => absurd h (Nat.lt_irrefl _)⟩
theorem impl_name_c (s : ByteArray) (hs : s.size ≤ 9223372036854775807) (w : World) : Calls Try.prog 61 #[.string s] w fun e w' => e = .returned (.bool (decide (LL.NameOk s))) ∧ Below w.heap.size w w' := by
  go_enter Try.func61, Try.ntmps61
  go_wp2_with fail
  refine (impl_ProbeTubeOk_c s [] none 0 hs _ (rd_nil _)).mono ?_
  rintro e W2 ⟨rfl, hB⟩
  rw [decide_eq_decide.2 (LL.tube_nil s)]
  go_wp2_with fail
  go_ret
  exact ⟨rfl, hB⟩
theorem impl_flown_c (p : LL.Path) (A : Option Addr) (c : Nat) (w : World) (h : RdS w A p.steps.length c p.steps) : Calls Try.prog 62 #[.agg #[.int .i64 p.q, .int .i64 p.s, .slice A p.steps.length c, .int .i64 p.fr, .int .i64 p.by_]] w fun e w' => e = .returned (.bool (decide (LL.Flies p))) ∧ Below w.heap.size w w' := by
  go_enter Try.func62, Try.ntmps62
  go_wp2_with fail
  refine calls_name (fun W => Below w.heap.size w W) (by repeat' (first | with_reducible exact Below.refl _ _ | with_reducible assumption | with_reducible refine b_alloc ?_ _ | with_reducible refine b_drewN ?_ _ | with_reducible refine b_drew ?_ | with_reducible refine b_set ?_ (by first | (simp only [World.size_setCell, World.size_alloc, World.size_drew]; omega) | (simp; done) | (simp; omega)) _ | with_reducible refine b_step ?_ (by with_reducible assumption))) ?_
  intro W1 hb
  refine (impl_FlySpans_c p A c _ (h.mono hb)).mono ?_
  intro e W2 hM
  obtain ⟨As, cs, rfl, -, -, hB⟩ := hM.go2 spanE
  replace hb := b_step hb hB
  clear hM hB
  go_wp2_with fail
  go_ret
  exact ⟨rfl, hb⟩
theorem spec_l21Can_c (p : LL.Path) (A : Option Addr) (c : Nat) (w : World) (h : RdS w A p.steps.length c p.steps) : Calls Try.prog 77 #[.agg #[.int .i64 p.q, .int .i64 p.s, .slice A p.steps.length c, .int .i64 p.fr, .int .i64 p.by_]] w fun e w' => e = .returned (.bool (decide (LL.Flies p))) ∧ Below w.heap.size w w' := by
  go_enter Try.func77, Try.ntmps77
  go_wp2_with fail
  refine calls_name (fun W => Below w.heap.size w W) (by repeat' (first | with_reducible exact Below.refl _ _ | with_reducible assumption | with_reducible refine b_alloc ?_ _ | with_reducible refine b_drewN ?_ _ | with_reducible refine b_drew ?_ | with_reducible refine b_set ?_ (by first | (simp only [World.size_setCell, World.size_alloc, World.size_drew]; omega) | (simp; done) | (simp; omega)) _ | with_reducible refine b_step ?_ (by with_reducible assumption))) ?_
  intro W1 hb
  refine (spec_FlySpans_c p A c _ (h.mono hb)).mono ?_
  intro e W2 hM
  obtain ⟨As, cs, rfl, -, -, hB⟩ := hM.go2 spanE
  replace hb := b_step hb hB
  clear hM hB
  go_wp2_with fail
  go_ret
  exact ⟨rfl, hb⟩
theorem impl_nothing_c (p : LL.Path) (A : Option Addr) (c : Nat) (hn : p.steps.length ≤ 9223372036854775807) (w : World) : Calls Try.prog 63 #[.agg #[.int .i64 p.q, .int .i64 p.s, .slice A p.steps.length c, .int .i64 p.fr, .int .i64 p.by_]] w fun e w' => e = .returned (.bool (decide (LL.NoPath p))) ∧ Below w.heap.size w w' := by
  go_enter Try.func63, Try.ntmps63
  go_wp2
  all_goals go_ret
  all_goals exact ⟨rd_ (by simp only [LL.NoPath]; simp_all), (by repeat' (first | with_reducible exact Below.refl _ _ | with_reducible assumption | with_reducible refine b_alloc ?_ _ | with_reducible refine b_drewN ?_ _ | with_reducible refine b_drew ?_ | with_reducible refine b_set ?_ (by first | (simp only [World.size_setCell, World.size_alloc, World.size_drew]; omega) | (simp; done) | (simp; omega)) _ | with_reducible refine b_step ?_ (by with_reducible assumption)))⟩
theorem spec_l21None_c (p : LL.Path) (A : Option Addr) (c : Nat) (hn : p.steps.length ≤ 9223372036854775807) (w : World) : Calls Try.prog 67 #[.agg #[.int .i64 p.q, .int .i64 p.s, .slice A p.steps.length c, .int .i64 p.fr, .int .i64 p.by_]] w fun e w' => e = .returned (.bool (decide (LL.NoPath p))) ∧ Below w.heap.size w w' := by
  go_enter Try.func67, Try.ntmps67
  go_wp2
  all_goals go_ret
  all_goals exact ⟨rd_ (by simp only [LL.NoPath]; simp_all), (by repeat' (first | with_reducible exact Below.refl _ _ | with_reducible assumption | with_reducible refine b_alloc ?_ _ | with_reducible refine b_drewN ?_ _ | with_reducible refine b_drew ?_ | with_reducible refine b_set ?_ (by first | (simp only [World.size_setCell, World.size_alloc, World.size_drew]; omega) | (simp; done) | (simp; omega)) _ | with_reducible refine b_step ?_ (by with_reducible assumption)))⟩
set_option maxRecDepth 100000 in
set_option maxHeartbeats 4000000 in
theorem impl_LinkWordOk_c (x : LL.Word) (A : Option Addr) (c : Nat) (hs : x.name.size ≤ 9223372036854775807) (w : World) (h : RdS w A x.path.steps.length c x.path.steps) : Calls Try.prog 95 #[.agg #[.int .i64 x.kind, .string x.name, .int .i64 x.number, .int .i64 x.path.q, .int .i64 x.path.s, .slice A x.path.steps.length c, .int .i64 x.path.fr, .int .i64 x.path.by_]] w fun e w' => e = .returned (.bool (decide (LL.WordOk x))) ∧ Below w.heap.size w w' := by
  have hroom := h.room
  have hn : x.path.steps.length ≤ 9223372036854775807 := by omega
  go_enter Try.func95, Try.ntmps95
  go_wp2_with (first | (go_at_call 60; refine (impl_in_c _ _ _ _).mono ?_; rintro e w' ⟨rfl, rfl⟩) | (go_at_call 61; go_loud (refine (impl_name_c _ hs _).mono ?_); rintro e w1 ⟨rfl, hb⟩; (repeat (with_reducible first | replace hb := b_un hb | replace hb := b_unN hb)); obtain ⟨hc, hf, hl⟩ := bcell hb; obtain ⟨gc, gf, gl⟩ := bcell (b_step (w := w) (by repeat' (first | with_reducible exact Below.refl _ _ | with_reducible assumption | with_reducible refine b_alloc ?_ _ | with_reducible refine b_drewN ?_ _ | with_reducible refine b_drew ?_ | with_reducible refine b_set ?_ (by first | (simp only [World.size_setCell, World.size_alloc, World.size_drew]; omega) | (simp; done) | (simp; omega)) _ | with_reducible refine b_step ?_ (by with_reducible assumption))) hb); have hz := hb.size; (try simp at hz); have yw1_0 : w.heap.size < w1.heap.size := (by omega)) | (go_at_call 62; go_loud (refine (impl_flown_c x.path A c _ (by exact Rd.mono (by with_reducible assumption) (by repeat' (first | with_reducible exact Below.refl _ _ | with_reducible assumption | with_reducible refine b_alloc ?_ _ | with_reducible refine b_drewN ?_ _ | with_reducible refine b_drew ?_ | with_reducible refine b_set ?_ (by first | (simp only [World.size_setCell, World.size_alloc, World.size_drew]; omega) | (simp; done) | (simp; omega)) _ | with_reducible refine b_step ?_ (by with_reducible assumption))))).mono ?_); rintro e w2 ⟨rfl, hb⟩; (repeat (with_reducible first | replace hb := b_un hb | replace hb := b_unN hb)); obtain ⟨hc, hf, hl⟩ := bcell hb; obtain ⟨gc, gf, gl⟩ := bcell (b_step (w := w) (by repeat' (first | with_reducible exact Below.refl _ _ | with_reducible assumption | with_reducible refine b_alloc ?_ _ | with_reducible refine b_drewN ?_ _ | with_reducible refine b_drew ?_ | with_reducible refine b_set ?_ (by first | (simp only [World.size_setCell, World.size_alloc, World.size_drew]; omega) | (simp; done) | (simp; omega)) _ | with_reducible refine b_step ?_ (by with_reducible assumption))) hb); have hz := hb.size; (try simp at hz); have yw2_0 : w.heap.size < w2.heap.size := (by omega)) | (go_at_call 63; go_loud (refine (impl_nothing_c x.path A c hn _).mono ?_); rintro e w2 ⟨rfl, hb⟩; (repeat (with_reducible first | replace hb := b_un hb | replace hb := b_unN hb)); obtain ⟨hc, hf, hl⟩ := bcell hb; obtain ⟨gc, gf, gl⟩ := bcell (b_step (w := w) (by repeat' (first | with_reducible exact Below.refl _ _ | with_reducible assumption | with_reducible refine b_alloc ?_ _ | with_reducible refine b_drewN ?_ _ | with_reducible refine b_drew ?_ | with_reducible refine b_set ?_ (by first | (simp only [World.size_setCell, World.size_alloc, World.size_drew]; omega) | (simp; done) | (simp; omega)) _ | with_reducible refine b_step ?_ (by with_reducible assumption))) hb); have hz := hb.size; (try simp at hz); have yw2_0 : w.heap.size < w2.heap.size := (by omega)))
  all_goals go_ret
  all_goals exact ⟨rd_ (by simp only [LL.WordOk]; grind), (by repeat' (first | with_reducible exact Below.refl _ _ | with_reducible assumption | with_reducible refine b_alloc ?_ _ | with_reducible refine b_drewN ?_ _ | with_reducible refine b_drew ?_ | with_reducible refine b_set ?_ (by first | (simp only [World.size_setCell, World.size_alloc, World.size_drew]; omega) | (simp; done) | (simp; omega)) _ | with_reducible refine b_step ?_ (by with_reducible assumption)))⟩
set_option maxRecDepth 100000 in
set_option maxHeartbeats 4000000 in
theorem spec_LinkWordOk_c (x : LL.Word) (A : Option Addr) (c : Nat) (hs : x.name.size ≤ 9223372036854775807) (w : World) (h : RdS w A x.path.steps.length c x.path.steps) : Calls Try.prog 90 #[.agg #[.int .i64 x.kind, .string x.name, .int .i64 x.number, .int .i64 x.path.q, .int .i64 x.path.s, .slice A x.path.steps.length c, .int .i64 x.path.fr, .int .i64 x.path.by_]] w fun e w' => e = .returned (.bool (decide (LL.WordOk x))) ∧ Below w.heap.size w w' := by
  have hroom := h.room
  have hn : x.path.steps.length ≤ 9223372036854775807 := by omega
  go_enter Try.func90, Try.ntmps90
  go_wp2_with (first | (go_at_call 55; refine (spec_l1In_c _ _ _ _).mono ?_; rintro e w' ⟨rfl, rfl⟩) | (go_at_call 104; refine (spec_l12NameOk_c _ hs _).mono ?_; rintro e w' ⟨rfl, rfl⟩) | (go_at_call 77; go_loud (refine (spec_l21Can_c x.path A c _ (by exact Rd.mono (by with_reducible assumption) (by repeat' (first | with_reducible exact Below.refl _ _ | with_reducible assumption | with_reducible refine b_alloc ?_ _ | with_reducible refine b_drewN ?_ _ | with_reducible refine b_drew ?_ | with_reducible refine b_set ?_ (by first | (simp only [World.size_setCell, World.size_alloc, World.size_drew]; omega) | (simp; done) | (simp; omega)) _ | with_reducible refine b_step ?_ (by with_reducible assumption))))).mono ?_); rintro e w2 ⟨rfl, hb⟩; (repeat (with_reducible first | replace hb := b_un hb | replace hb := b_unN hb)); obtain ⟨hc, hf, hl⟩ := bcell hb; obtain ⟨gc, gf, gl⟩ := bcell (b_step (w := w) (by repeat' (first | with_reducible exact Below.refl _ _ | with_reducible assumption | with_reducible refine b_alloc ?_ _ | with_reducible refine b_drewN ?_ _ | with_reducible refine b_drew ?_ | with_reducible refine b_set ?_ (by first | (simp only [World.size_setCell, World.size_alloc, World.size_drew]; omega) | (simp; done) | (simp; omega)) _ | with_reducible refine b_step ?_ (by with_reducible assumption))) hb); have hz := hb.size; (try simp at hz); have yw2_0 : w.heap.size < w2.heap.size := (by omega)) | (go_at_call 67; go_loud (refine (spec_l21None_c x.path A c hn _).mono ?_); rintro e w2 ⟨rfl, hb⟩; (repeat (with_reducible first | replace hb := b_un hb | replace hb := b_unN hb)); obtain ⟨hc, hf, hl⟩ := bcell hb; obtain ⟨gc, gf, gl⟩ := bcell (b_step (w := w) (by repeat' (first | with_reducible exact Below.refl _ _ | with_reducible assumption | with_reducible refine b_alloc ?_ _ | with_reducible refine b_drewN ?_ _ | with_reducible refine b_drew ?_ | with_reducible refine b_set ?_ (by first | (simp only [World.size_setCell, World.size_alloc, World.size_drew]; omega) | (simp; done) | (simp; omega)) _ | with_reducible refine b_step ?_ (by with_reducible assumption))) hb); have hz := hb.size; (try simp at hz); have yw2_0 : w.heap.size < w2.heap.size := (by omega)))
  all_goals go_ret
  all_goals exact ⟨rd_ (by simp only [LL.WordOk]; grind), (by repeat' (first | with_reducible exact Below.refl _ _ | with_reducible assumption | with_reducible refine b_alloc ?_ _ | with_reducible refine b_drewN ?_ _ | with_reducible refine b_drew ?_ | with_reducible refine b_set ?_ (by first | (simp only [World.size_setCell, World.size_alloc, World.size_drew]; omega) | (simp; done) | (simp; omega)) _ | with_reducible refine b_step ?_ (by with_reducible assumption)))⟩
end Go.Proofs.Ytkpnjnkfbhomgaa

/- Aircraft: begun, going on, staying; LinkCraftOk and LinkMust of the program and of the reference. -/
set_option linter.unusedVariables false
set_option linter.unusedSimpArgs false
namespace Go.Proofs.Ytkpnjnkfbhomgaa
open Go.RowKit
attribute [local go_sem] w_lt_add w_le_of w_le_add max2_i min2_i ite_max ite_min
set_option maxRecDepth 100000 in
set_option maxHeartbeats 4000000 in
theorem impl_begun_c (x : LL.Craft) (A F : Option Addr) (c m : Nat) (w : World) (h : RdS w A x.path.steps.length c x.path.steps) (hF : RdI w F x.flown.length m x.flown) : Calls Try.prog 127 #[.agg #[.string x.name, .int .i64 x.number, .int .i64 x.no, .int .i64 x.path.q, .int .i64 x.path.s, .slice A x.path.steps.length c, .int .i64 x.path.fr, .int .i64 x.path.by_, .slice F x.flown.length m]] w fun e w' => e = .returned (.bool (decide (LL.CanNext x.path x.flown))) ∧ Below w.heap.size w w' := by
  have hroom := h.room
  have hroom' := hF.room
  by_cases hl : x.flown.length ≤ x.path.steps.length
  · go_enter Try.func127, Try.ntmps127
    go_wp2_with fail
    refine calls_name (fun W => Below w.heap.size w W) (by repeat' (first | with_reducible exact Below.refl _ _ | with_reducible assumption | with_reducible refine b_alloc ?_ _ | with_reducible refine b_drewN ?_ _ | with_reducible refine b_drew ?_ | with_reducible refine b_set ?_ (by first | (simp only [World.size_setCell, World.size_alloc, World.size_drew]; omega) | (simp; done) | (simp; omega)) _ | with_reducible refine b_step ?_ (by with_reducible assumption))) ?_
    intro W1 hb
    refine (impl_FlyNext_c x.path x.flown A F c m _ (h.mono hb) (hF.mono hb)).mono ?_
    rintro e W2 ⟨rfl, hB⟩
    replace hb := b_step hb hB
    clear hB
    go_wp2_with fail
    go_ret
    exact ⟨rfl, (by repeat' (first | with_reducible exact Below.refl _ _ | with_reducible assumption | with_reducible refine b_alloc ?_ _ | with_reducible refine b_drewN ?_ _ | with_reducible refine b_drew ?_ | with_reducible refine b_set ?_ (by first | (simp only [World.size_setCell, World.size_alloc, World.size_drew]; omega) | (simp; done) | (simp; omega)) _ | with_reducible refine b_step ?_ (by with_reducible assumption)))⟩
  · go_enter Try.func127, Try.ntmps127
    go_wp2_with fail
    go_ret
    exact ⟨rd_ (iff_of_false (fun h9 => hl h9.2.1) (by simp)), (by repeat' (first | with_reducible exact Below.refl _ _ | with_reducible assumption | with_reducible refine b_alloc ?_ _ | with_reducible refine b_drewN ?_ _ | with_reducible refine b_drew ?_ | with_reducible refine b_set ?_ (by first | (simp only [World.size_setCell, World.size_alloc, World.size_drew]; omega) | (simp; done) | (simp; omega)) _ | with_reducible refine b_step ?_ (by with_reducible assumption)))⟩
set_option maxRecDepth 100000 in
set_option maxHeartbeats 4000000 in
theorem impl_stays_c (x : LL.Craft) (A F : Option Addr) (c m : Nat) (p : LL.Path) (B : Option Addr) (d : Nat) (t : Int) (w : World) (h0 : 0 ≤ t) (h1 : t ≤ 10000) (h : RdS w A x.path.steps.length c x.path.steps) (hF : RdI w F x.flown.length m x.flown) (hp : RdS w B p.steps.length d p.steps) : Calls Try.prog 96 #[.agg #[.string x.name, .int .i64 x.number, .int .i64 x.no, .int .i64 x.path.q, .int .i64 x.path.s, .slice A x.path.steps.length c, .int .i64 x.path.fr, .int .i64 x.path.by_, .slice F x.flown.length m], .agg #[.int .i64 p.q, .int .i64 p.s, .slice B p.steps.length d, .int .i64 p.fr, .int .i64 p.by_], .int .i64 t] w fun e w' => e = .returned (.bool (decide (LL.Stays p x.flown t))) ∧ Below w.heap.size w w' := by
  have hroom := hp.room
  have hroom' := hF.room
  by_cases hl : x.flown.length = 0
  · have hl2 : ((x.flown.length : Int) == 0) = true := by simp [hl]
    have Hl := Lib.hid hl
    clear hl
    go_enter Try.func96, Try.ntmps96
    go_wp2_with fail
    refine calls_name (fun W => Below w.heap.size w W) (by repeat' (first | with_reducible exact Below.refl _ _ | with_reducible assumption | with_reducible refine b_alloc ?_ _ | with_reducible refine b_drewN ?_ _ | with_reducible refine b_drew ?_ | with_reducible refine b_set ?_ (by first | (simp only [World.size_setCell, World.size_alloc, World.size_drew]; omega) | (simp; done) | (simp; omega)) _ | with_reducible refine b_step ?_ (by with_reducible assumption))) ?_
    intro W1 hb
    refine (impl_FlySpans_c p B d _ (hp.mono hb)).mono ?_
    intro e W2 hM
    by_cases hFl : LL.Flies p
    · rw [LL.spansM_yes hFl, decide_eq_true hFl] at hM
      obtain ⟨As, cs, rfl, hSp, -, hB⟩ := hM.go2 spanE
      replace hb := b_step hb hB
      clear hM hB
      obtain ⟨gs, rfl⟩ := hSp.someA (by simp [LL.spans, LL.tab_len])
      have hlt2 : 0 < (LL.spans p).length := by simp [LL.spans, LL.tab_len]
      have h2 := (hSp.rd_at' spanE).S2 0 hlt2
      rw [LL.spans_at _ 0 (by omega)] at h2
      simp only [Nat.zero_add, Nat.zero_mul] at h2
      obtain ⟨e0, e1⟩ := h2
      have hgs := (hSp.row.lt _ rfl).2
      dsimp only at hgs
      have hM : t < LL.hi p 0 ↔ LL.Stays p x.flown t := by rw [LL.stays_none Hl.out, LL.waits_flies]; exact ⟨fun h9 => ⟨hFl, h9⟩, fun h9 => h9.2⟩
      have HM := Lib.hid hM
      clear hM
      generalize LL.hi p 0 = hw at *
      go_wp2_with fail
      go_ret
      exact ⟨rb (decide_eq_decide.2 HM.out), (by repeat' (first | with_reducible exact Below.refl _ _ | with_reducible assumption | with_reducible refine b_alloc ?_ _ | with_reducible refine b_drewN ?_ _ | with_reducible refine b_drew ?_ | with_reducible refine b_set ?_ (by first | (simp only [World.size_setCell, World.size_alloc, World.size_drew]; omega) | (simp; done) | (simp; omega)) _ | with_reducible refine b_step ?_ (by with_reducible assumption)))⟩
    · rw [LL.spansM_no hFl, decide_eq_false hFl] at hM
      obtain ⟨As, cs, rfl, hSp, -, hB⟩ := hM.go2 spanE
      replace hb := b_step hb hB
      clear hM hB
      go_wp2_with fail
      go_ret
      exact ⟨rd_ (iff_of_false (fun h9 => hFl (LL.waits_flies.1 ((LL.stays_none Hl.out).1 h9)).1) (by simp)), (by repeat' (first | with_reducible exact Below.refl _ _ | with_reducible assumption | with_reducible refine b_alloc ?_ _ | with_reducible refine b_drewN ?_ _ | with_reducible refine b_drew ?_ | with_reducible refine b_set ?_ (by first | (simp only [World.size_setCell, World.size_alloc, World.size_drew]; omega) | (simp; done) | (simp; omega)) _ | with_reducible refine b_step ?_ (by with_reducible assumption)))⟩
  · have hl2 : ((x.flown.length : Int) == 0) = false := beq_eq_false_iff_ne.2 (by omega)
    have hl3 : 0 < x.flown.length := by omega
    have Hl := Lib.hid hl
    clear hl
    obtain ⟨b2, off2, rfl, hbw2⟩ := hF.addr hl3
    have c0 := hF.S1 (x.flown.length - 1) (by omega)
    go_enter Try.func96, Try.ntmps96
    go_wp2_with fail
    refine wp_name (fun W => Below w.heap.size w W ∧ Blk W w.heap.size #[.string x.name, .int .i64 x.number, .int .i64 x.no, .int .i64 x.path.q, .int .i64 x.path.s, .slice A x.path.steps.length c, .int .i64 x.path.fr, .int .i64 x.path.by_, .slice (some ⟨b2, off2, none⟩) x.flown.length m] 74 ∧ Blk W (w.heap.size + 1) #[.int .i64 p.q, .int .i64 p.s, .slice B p.steps.length d, .int .i64 p.fr, .int .i64 p.by_] 44) ⟨(by repeat' (first | with_reducible exact Below.refl _ _ | with_reducible assumption | with_reducible refine b_alloc ?_ _ | with_reducible refine b_drewN ?_ _ | with_reducible refine b_drew ?_ | with_reducible refine b_set ?_ (by first | (simp only [World.size_setCell, World.size_alloc, World.size_drew]; omega) | (simp; done) | (simp; omega)) _ | with_reducible refine b_step ?_ (by with_reducible assumption))), (by repeat' (first | with_reducible assumption | with_reducible exact Blk.new _ _ _ | with_reducible exact Blk.new' _ _ (by first | (simp only [World.size_alloc, World.size_setCell, World.size_drew]; done) | (simp only [World.size_alloc, World.size_setCell, World.size_drew]; omega) | omega) | with_reducible refine Blk.a ?_ _ | with_reducible refine Blk.d ?_ | with_reducible refine Blk.dN ?_ _ | with_reducible refine Blk.s ?_ (by simp only [ne_eq]; omega) _ | with_reducible refine Blk.b ?_ (by with_reducible assumption))), (by repeat' (first | with_reducible assumption | with_reducible exact Blk.new _ _ _ | with_reducible exact Blk.new' _ _ (by first | (simp only [World.size_alloc, World.size_setCell, World.size_drew]; done) | (simp only [World.size_alloc, World.size_setCell, World.size_drew]; omega) | omega) | with_reducible refine Blk.a ?_ _ | with_reducible refine Blk.d ?_ | with_reducible refine Blk.dN ?_ _ | with_reducible refine Blk.s ?_ (by simp only [ne_eq]; omega) _ | with_reducible refine Blk.b ?_ (by with_reducible assumption)))⟩ ?_
    rintro W1 ⟨hb, kC, kQ⟩
    obtain ⟨ekC, fkC, lkC⟩ := kC.cells; obtain ⟨ekQ, fkQ, lkQ⟩ := kQ.cells
    obtain ⟨gc, gf, gl⟩ := bcell hb
    generalize hlast : LL.nthI x.flown (x.flown.length - 1) = la at *
    have Hlast := Lib.hid hlast
    clear hlast
    refine rel_tailf_b 13 [11] [(8, fun v W => ∃ A9 c9, v = .tuple #[.agg #[.int .i64 (LL.restM p ((x.flown.length : Int) - 1) la t).q, .int .i64 (LL.restM p ((x.flown.length : Int) - 1) la t).s, .slice A9 (LL.restM p ((x.flown.length : Int) - 1) la t).steps.length c9, .int .i64 (LL.restM p ((x.flown.length : Int) - 1) la t).fr, .int .i64 (LL.restM p ((x.flown.length : Int) - 1) la t).by_], .bool (decide (LL.CanRest p ((x.flown.length : Int) - 1) la t))]), (12, fun v w' => ∃ g, v = .pointer (some ⟨g, 0, none⟩) ∧ W1.heap.size ≤ g ∧ Blk w' g #[.int .i64 0, .int .i64 0, .slice none 0 0, .int .i64 0, .int .i64 0] 44)] (by kernel_rfl) (by kernel_rfl) (by intro d9 v9 c9 a9 w9 h9; cases d9 <;> exact h9) ?_
    simp only [List.take_succ_cons, List.take_zero, List.drop_succ_cons, List.drop_zero]
    iterate 8 ((apply rel_plain (hR := rfl) (hF := fun _ => trivial) (hg := rfl)); (focus ((intro w' hL'); (obtain ⟨hcS, hfS, hlS⟩ := bcell hL'); (try simp only [World.size_setCell, World.size_alloc, World.size_drew] at hcS hfS hlS); (go_simp); (try go_bits); (try (first | (rw [if_pos (by omega)]; done) | (rw [if_neg (by omega)]; done) | (rw [if_pos (by omega)]; go_simp) | (rw [if_neg (by omega)]; go_simp))); (first | with_reducible rfl | exact rfl | skip))); (simp only [Act.put, List.setIfInBounds_toArray, List.set_cons_zero, List.set_cons_succ]))
    ((apply rel_told (hR := rfl) (hg := rfl)); (focus ((intro w' hL' hD'); (obtain ⟨hcS, hfS, hlS⟩ := bcell hL'); (try simp only [World.size_setCell, World.size_alloc, World.size_drew] at hcS hfS hlS); (go_simp); (try go_bits); (try (first | (rw [if_pos (by omega)]; done) | (rw [if_neg (by omega)]; done) | (rw [if_pos (by omega)]; go_simp) | (rw [if_neg (by omega)]; go_simp))); ((go_at_call 128); (refine (impl_FlyRest_c p B d _ _ _ _ (hp.mono (b_step hb hL'))).mono ?_); (intro e w'' hM); (obtain ⟨A2, c2, e2, hO2, hg2, hB⟩ := hM.gop2); (refine ⟨_, e2, hB, ?_⟩); ((repeat (first | (refine Tell.hit rfl ?_) | (refine Tell.skip rfl ?_))); exact ⟨A2, c2, rfl⟩)))); (intro v' w0' hv'); (replace hv' := Tell.out hv' rfl); (obtain ⟨A9, c9, rfl⟩ := hv'); (simp only [Act.put, List.setIfInBounds_toArray, List.set_cons_zero, List.set_cons_succ]))
    iterate 3 ((apply rel_plain (hR := rfl) (hF := fun _ => trivial) (hg := rfl)); (focus ((intro w' hL'); (obtain ⟨hcS, hfS, hlS⟩ := bcell hL'); (try simp only [World.size_setCell, World.size_alloc, World.size_drew] at hcS hfS hlS); (go_simp); (try go_bits); (try (first | (rw [if_pos (by omega)]; done) | (rw [if_neg (by omega)]; done) | (rw [if_pos (by omega)]; go_simp) | (rw [if_neg (by omega)]; go_simp))); (first | with_reducible rfl | exact rfl | skip))); (simp only [Act.put, List.setIfInBounds_toArray, List.set_cons_zero, List.set_cons_succ]))
    ((apply rel_told (hR := rfl) (hg := rfl)); (focus ((intro w' hL' hD'); (obtain ⟨hcS, hfS, hlS⟩ := bcell hL'); (try simp only [World.size_setCell, World.size_alloc, World.size_drew] at hcS hfS hlS); (go_simp); (try go_bits); (try (first | (rw [if_pos (by omega)]; done) | (rw [if_neg (by omega)]; done) | (rw [if_pos (by omega)]; go_simp) | (rw [if_neg (by omega)]; go_simp))); (refine ⟨b_alloc (Below.refl _ _) _, ?_⟩; ((repeat (first | (refine Tell.hit rfl ?_) | (refine Tell.skip rfl ?_))); exact ⟨_, rfl, hL'.size, Blk.new _ _ _⟩)))); (intro v' w0' hv'); (replace hv' := Tell.out hv' rfl); (obtain ⟨g, rfl, hgw, -⟩ := hv'); (simp only [Act.put, List.setIfInBounds_toArray, List.set_cons_zero, List.set_cons_succ]))
    refine rel_nil ?_
    intro W2 hL2 hF2
    obtain ⟨w0, hl0, g', hg', -, kG⟩ := Known.out (hF2 12) rfl
    cases hg'
    have hgG := kG.b hl0
    have hbs := hb.size
    clear ekC fkC lkC ekQ fkQ lkQ
    clear gc gf gl hF2 hl0 kG
    replace hb := b_step hb hL2; replace kC := kC.b hL2; replace kQ := kQ.b hL2; clear hL2
    obtain ⟨ehgG, fhgG, lhgG⟩ := hgG.cells
    go_wp2_with fail
    go_ret
    exact ⟨rb (decide_eq_decide.2 (by rw [LL.stays_some Hl.out, Hlast.out])), (by repeat' (first | with_reducible exact Below.refl _ _ | with_reducible assumption | with_reducible refine b_alloc ?_ _ | with_reducible refine b_drewN ?_ _ | with_reducible refine b_drew ?_ | with_reducible refine b_set ?_ (by first | (simp only [World.size_setCell, World.size_alloc, World.size_drew]; omega) | (simp; done) | (simp; omega)) _ | with_reducible refine b_step ?_ (by with_reducible assumption)))⟩
set_option maxRecDepth 100000 in
set_option maxHeartbeats 4000000 in
theorem impl_LinkCraftOk_c (x : LL.Craft) (A F : Option Addr) (c m : Nat) (t : Int) (hs : x.name.size ≤ 9223372036854775807) (w : World) (h : RdS w A x.path.steps.length c x.path.steps) (hF : RdI w F x.flown.length m x.flown) : Calls Try.prog 94 #[.agg #[.string x.name, .int .i64 x.number, .int .i64 x.no, .int .i64 x.path.q, .int .i64 x.path.s, .slice A x.path.steps.length c, .int .i64 x.path.fr, .int .i64 x.path.by_, .slice F x.flown.length m], .int .i64 t] w fun e w' => e = .returned (.bool (decide (LL.CraftOk x t))) ∧ Below w.heap.size w w' := by
  have hroom := h.room
  have hroom' := hF.room
  go_enter Try.func94, Try.ntmps94
  go_wp2_with fail
  refine calls_name (fun W => Below w.heap.size w W ∧ Blk W w.heap.size #[.string x.name, .int .i64 x.number, .int .i64 x.no, .int .i64 x.path.q, .int .i64 x.path.s, .slice A x.path.steps.length c, .int .i64 x.path.fr, .int .i64 x.path.by_, .slice F x.flown.length m] 74) ⟨(by repeat' (first | with_reducible exact Below.refl _ _ | with_reducible assumption | with_reducible refine b_alloc ?_ _ | with_reducible refine b_drewN ?_ _ | with_reducible refine b_drew ?_ | with_reducible refine b_set ?_ (by first | (simp only [World.size_setCell, World.size_alloc, World.size_drew]; omega) | (simp; done) | (simp; omega)) _ | with_reducible refine b_step ?_ (by with_reducible assumption))), (by repeat' (first | with_reducible assumption | with_reducible exact Blk.new _ _ _ | with_reducible exact Blk.new' _ _ (by first | (simp only [World.size_alloc, World.size_setCell, World.size_drew]; done) | (simp only [World.size_alloc, World.size_setCell, World.size_drew]; omega) | omega) | with_reducible refine Blk.a ?_ _ | with_reducible refine Blk.d ?_ | with_reducible refine Blk.dN ?_ _ | with_reducible refine Blk.s ?_ (by simp only [ne_eq]; omega) _ | with_reducible refine Blk.b ?_ (by with_reducible assumption)))⟩ ?_
  rintro W1 ⟨hb, kC⟩
  refine (impl_name_c x.name hs _).mono ?_
  rintro e W2 ⟨rfl, hB⟩
  replace hb := b_step hb hB; replace kC := kC.b hB; clear hB
  by_cases hN : LL.NameOk x.name
  · rw [decide_eq_true hN]
    obtain ⟨ekC, fkC, lkC⟩ := kC.cells
    by_cases h1 : LL.In x.number 1 1000000
    · by_cases h2 : LL.In x.no 0 1000000
      · by_cases h3 : x.no = x.number
        · have h3b : (x.no == x.number) = true := by simp [h3]
          have H3 := Lib.hid h3
          clear h3
          go_wp2_with (go_at_call 60; refine (impl_in_c _ _ _ _).mono ?_; rintro e w' ⟨rfl, rfl⟩)
          go_ret
          exact ⟨rd_ (iff_of_false (fun h9 => h9.2.2.2.1 H3.out) (by simp)), (by repeat' (first | with_reducible exact Below.refl _ _ | with_reducible assumption | with_reducible refine b_alloc ?_ _ | with_reducible refine b_drewN ?_ _ | with_reducible refine b_drew ?_ | with_reducible refine b_set ?_ (by first | (simp only [World.size_setCell, World.size_alloc, World.size_drew]; omega) | (simp; done) | (simp; omega)) _ | with_reducible refine b_step ?_ (by with_reducible assumption)))⟩
        · have h3b : (x.no == x.number) = false := by simp [h3]
          by_cases h4 : LL.In t 0 10000
          · obtain ⟨t0, t1⟩ := id h4
            go_wp2_with (go_at_call 60; refine (impl_in_c _ _ _ _).mono ?_; rintro e w' ⟨rfl, rfl⟩)
            refine calls_name (fun W => Below W2.heap.size W2 W) (by repeat' (first | with_reducible exact Below.refl _ _ | with_reducible assumption | with_reducible refine b_alloc ?_ _ | with_reducible refine b_drewN ?_ _ | with_reducible refine b_drew ?_ | with_reducible refine b_set ?_ (by first | (simp only [World.size_setCell, World.size_alloc, World.size_drew]; omega) | (simp; done) | (simp; omega)) _ | with_reducible refine b_step ?_ (by with_reducible assumption))) ?_; intro W3 hE; clear ekC fkC lkC; replace hb := b_step hb hE; replace kC := kC.b hE; clear hE
            refine (impl_begun_c x A F c m _ (h.mono hb) (hF.mono hb)).mono ?_
            rintro e W4 ⟨rfl, hB⟩
            replace hb := b_step hb hB; replace kC := kC.b hB; clear hB
            by_cases hC : LL.CanNext x.path x.flown
            · rw [decide_eq_true hC]
              by_cases hl : 0 < x.flown.length
              · obtain ⟨b2, off2, rfl, hbw2⟩ := hF.addr hl
                have c0 := hF.S1 (x.flown.length - 1) (by omega)
                have hl2 : ((x.flown.length : Int) == 0) = false := beq_eq_false_iff_ne.2 (by omega)
                by_cases hla : LL.nthI x.flown (x.flown.length - 1) ≤ t
                · obtain ⟨gc, gf, gl⟩ := bcell hb
                  obtain ⟨ekC, fkC, lkC⟩ := kC.cells
                  go_wp2_with fail
                  clear gc gf gl
                  refine calls_name (fun W => Below W4.heap.size W4 W) (by repeat' (first | with_reducible exact Below.refl _ _ | with_reducible assumption | with_reducible refine b_alloc ?_ _ | with_reducible refine b_drewN ?_ _ | with_reducible refine b_drew ?_ | with_reducible refine b_set ?_ (by first | (simp only [World.size_setCell, World.size_alloc, World.size_drew]; omega) | (simp; done) | (simp; omega)) _ | with_reducible refine b_step ?_ (by with_reducible assumption))) ?_; intro W5 hE; clear ekC fkC lkC; replace hb := b_step hb hE; replace kC := kC.b hE; clear hE
                  refine (impl_stays_c x A _ c m x.path A c t _ t0 t1 (h.mono hb) (hF.mono hb) (h.mono hb)).mono ?_
                  rintro e W6 ⟨rfl, hB⟩
                  replace hb := b_step hb hB; replace kC := kC.b hB; clear hB
                  go_wp2_with fail
                  go_ret
                  exact ⟨rb (decide_eq_decide.2 ⟨fun h9 => ⟨hN, h1, h2, h3, h4, hC, fun _ => hla, h9⟩, fun h9 => h9.2.2.2.2.2.2.2⟩), (by repeat' (first | with_reducible exact Below.refl _ _ | with_reducible assumption | with_reducible refine b_alloc ?_ _ | with_reducible refine b_drewN ?_ _ | with_reducible refine b_drew ?_ | with_reducible refine b_set ?_ (by first | (simp only [World.size_setCell, World.size_alloc, World.size_drew]; omega) | (simp; done) | (simp; omega)) _ | with_reducible refine b_step ?_ (by with_reducible assumption)))⟩
                · obtain ⟨gc, gf, gl⟩ := bcell hb
                  obtain ⟨ekC, fkC, lkC⟩ := kC.cells
                  go_wp2_with fail
                  go_ret
                  exact ⟨rd_ (iff_of_false (fun h9 => by have h8 := h9.2.2.2.2.2.2.1 hl; omega) (by simp)), (by repeat' (first | with_reducible exact Below.refl _ _ | with_reducible assumption | with_reducible refine b_alloc ?_ _ | with_reducible refine b_drewN ?_ _ | with_reducible refine b_drew ?_ | with_reducible refine b_set ?_ (by first | (simp only [World.size_setCell, World.size_alloc, World.size_drew]; omega) | (simp; done) | (simp; omega)) _ | with_reducible refine b_step ?_ (by with_reducible assumption)))⟩
              · have hl0 : x.flown.length = 0 := by omega
                have hl2 : ((x.flown.length : Int) == 0) = true := by simp [hl0]
                clear hl0
                obtain ⟨ekC, fkC, lkC⟩ := kC.cells
                go_wp2_with fail
                refine calls_name (fun W => Below W4.heap.size W4 W) (by repeat' (first | with_reducible exact Below.refl _ _ | with_reducible assumption | with_reducible refine b_alloc ?_ _ | with_reducible refine b_drewN ?_ _ | with_reducible refine b_drew ?_ | with_reducible refine b_set ?_ (by first | (simp only [World.size_setCell, World.size_alloc, World.size_drew]; omega) | (simp; done) | (simp; omega)) _ | with_reducible refine b_step ?_ (by with_reducible assumption))) ?_; intro W5 hE; clear ekC fkC lkC; replace hb := b_step hb hE; replace kC := kC.b hE; clear hE
                refine (impl_stays_c x A _ c m x.path A c t _ t0 t1 (h.mono hb) (hF.mono hb) (h.mono hb)).mono ?_
                rintro e W6 ⟨rfl, hB⟩
                replace hb := b_step hb hB; replace kC := kC.b hB; clear hB
                go_wp2_with fail
                go_ret
                exact ⟨rb (decide_eq_decide.2 ⟨fun h9 => ⟨hN, h1, h2, h3, h4, hC, fun h8 => absurd h8 hl, h9⟩, fun h9 => h9.2.2.2.2.2.2.2⟩), (by repeat' (first | with_reducible exact Below.refl _ _ | with_reducible assumption | with_reducible refine b_alloc ?_ _ | with_reducible refine b_drewN ?_ _ | with_reducible refine b_drew ?_ | with_reducible refine b_set ?_ (by first | (simp only [World.size_setCell, World.size_alloc, World.size_drew]; omega) | (simp; done) | (simp; omega)) _ | with_reducible refine b_step ?_ (by with_reducible assumption)))⟩
            · rw [decide_eq_false hC]
              go_wp2_with fail
              go_ret
              exact ⟨rd_ (iff_of_false (fun h9 => hC h9.2.2.2.2.2.1) (by simp)), (by repeat' (first | with_reducible exact Below.refl _ _ | with_reducible assumption | with_reducible refine b_alloc ?_ _ | with_reducible refine b_drewN ?_ _ | with_reducible refine b_drew ?_ | with_reducible refine b_set ?_ (by first | (simp only [World.size_setCell, World.size_alloc, World.size_drew]; omega) | (simp; done) | (simp; omega)) _ | with_reducible refine b_step ?_ (by with_reducible assumption)))⟩
          · go_wp2_with (go_at_call 60; refine (impl_in_c _ _ _ _).mono ?_; rintro e w' ⟨rfl, rfl⟩)
            go_ret
            exact ⟨rd_ (iff_of_false (fun h9 => h4 h9.2.2.2.2.1) (by simp)), (by repeat' (first | with_reducible exact Below.refl _ _ | with_reducible assumption | with_reducible refine b_alloc ?_ _ | with_reducible refine b_drewN ?_ _ | with_reducible refine b_drew ?_ | with_reducible refine b_set ?_ (by first | (simp only [World.size_setCell, World.size_alloc, World.size_drew]; omega) | (simp; done) | (simp; omega)) _ | with_reducible refine b_step ?_ (by with_reducible assumption)))⟩
      · go_wp2_with (go_at_call 60; refine (impl_in_c _ _ _ _).mono ?_; rintro e w' ⟨rfl, rfl⟩)
        go_ret
        exact ⟨rd_ (iff_of_false (fun h9 => h2 h9.2.2.1) (by simp)), (by repeat' (first | with_reducible exact Below.refl _ _ | with_reducible assumption | with_reducible refine b_alloc ?_ _ | with_reducible refine b_drewN ?_ _ | with_reducible refine b_drew ?_ | with_reducible refine b_set ?_ (by first | (simp only [World.size_setCell, World.size_alloc, World.size_drew]; omega) | (simp; done) | (simp; omega)) _ | with_reducible refine b_step ?_ (by with_reducible assumption)))⟩
    · go_wp2_with (go_at_call 60; refine (impl_in_c _ _ _ _).mono ?_; rintro e w' ⟨rfl, rfl⟩)
      go_ret
      exact ⟨rd_ (iff_of_false (fun h9 => h1 h9.2.1) (by simp)), (by repeat' (first | with_reducible exact Below.refl _ _ | with_reducible assumption | with_reducible refine b_alloc ?_ _ | with_reducible refine b_drewN ?_ _ | with_reducible refine b_drew ?_ | with_reducible refine b_set ?_ (by first | (simp only [World.size_setCell, World.size_alloc, World.size_drew]; omega) | (simp; done) | (simp; omega)) _ | with_reducible refine b_step ?_ (by with_reducible assumption)))⟩
  · rw [decide_eq_false hN]
    go_wp2_with fail
    go_ret
    exact ⟨rd_ (iff_of_false (fun h9 => hN h9.1) (by simp)), (by repeat' (first | with_reducible exact Below.refl _ _ | with_reducible assumption | with_reducible refine b_alloc ?_ _ | with_reducible refine b_drewN ?_ _ | with_reducible refine b_drew ?_ | with_reducible refine b_set ?_ (by first | (simp only [World.size_setCell, World.size_alloc, World.size_drew]; omega) | (simp; done) | (simp; omega)) _ | with_reducible refine b_step ?_ (by with_reducible assumption)))⟩
theorem spec_l22Spans_c (p : LL.Path) (A : Option Addr) (c : Nat) (w : World) (W : LL.Win p) (h : RdS w A p.steps.length c p.steps) : Calls Try.prog 141 #[.agg #[.int .i64 p.q, .int .i64 p.s, .slice A p.steps.length c, .int .i64 p.fr, .int .i64 p.by_]] w fun e w' => e = .returned (.bool (decide (LL.SpansOk p))) ∧ Below w.heap.size w w' := by
  go_enter Try.func141, Try.ntmps141
  go_wp2_with fail
  refine calls_name (fun W => Below w.heap.size w W) (by repeat' (first | with_reducible exact Below.refl _ _ | with_reducible assumption | with_reducible refine b_alloc ?_ _ | with_reducible refine b_drewN ?_ _ | with_reducible refine b_drew ?_ | with_reducible refine b_set ?_ (by first | (simp only [World.size_setCell, World.size_alloc, World.size_drew]; omega) | (simp; done) | (simp; omega)) _ | with_reducible refine b_step ?_ (by with_reducible assumption))) ?_
  intro W1 hb
  refine (spec_l4Spans_c p A c _ W (h.mono hb)).mono ?_
  intro e W2 hM
  obtain ⟨As, cs, rfl, -, -, hB⟩ := hM.go2 spanE
  replace hb := b_step hb hB
  clear hM hB
  go_wp2_with fail
  go_ret
  exact ⟨rfl, hb⟩
set_option maxRecDepth 100000 in
set_option maxHeartbeats 4000000 in
theorem spec_l22Begun_c (p : LL.Path) (f : List Int) (A F : Option Addr) (c m : Nat) (w : World) (h : RdS w A p.steps.length c p.steps) (hF : RdI w F f.length m f) : Calls Try.prog 123 #[.agg #[.int .i64 p.q, .int .i64 p.s, .slice A p.steps.length c, .int .i64 p.fr, .int .i64 p.by_], .slice F f.length m] w fun e w' => e = .returned (.bool (decide (LL.CanNext p f))) ∧ Below w.heap.size w w' := by
  have hroom := h.room
  have hroom' := hF.room
  go_enter Try.func123, Try.ntmps123
  go_wp2_with fail
  refine calls_name (fun W => Below w.heap.size w W ∧ Blk W w.heap.size #[.int .i64 p.q, .int .i64 p.s, .slice A p.steps.length c, .int .i64 p.fr, .int .i64 p.by_] 44) ⟨(by repeat' (first | with_reducible exact Below.refl _ _ | with_reducible assumption | with_reducible refine b_alloc ?_ _ | with_reducible refine b_drewN ?_ _ | with_reducible refine b_drew ?_ | with_reducible refine b_set ?_ (by first | (simp only [World.size_setCell, World.size_alloc, World.size_drew]; omega) | (simp; done) | (simp; omega)) _ | with_reducible refine b_step ?_ (by with_reducible assumption))), (by repeat' (first | with_reducible assumption | with_reducible exact Blk.new _ _ _ | with_reducible exact Blk.new' _ _ (by first | (simp only [World.size_alloc, World.size_setCell, World.size_drew]; done) | (simp only [World.size_alloc, World.size_setCell, World.size_drew]; omega) | omega) | with_reducible refine Blk.a ?_ _ | with_reducible refine Blk.d ?_ | with_reducible refine Blk.dN ?_ _ | with_reducible refine Blk.s ?_ (by simp only [ne_eq]; omega) _ | with_reducible refine Blk.b ?_ (by with_reducible assumption)))⟩ ?_
  rintro W1 ⟨hb, kP⟩
  refine (spec_l6Held_c p f A F c m _ (h.mono hb) (hF.mono hb)).mono ?_
  intro e W2 hM
  obtain ⟨A2, c2, rfl, hO, -, hB⟩ := hM.gop
  rw [LL.hdP_len] at hO ⊢
  replace hb := b_step hb hB; replace kP := kP.b hB; clear hB
  clear hM
  obtain ⟨ekP, fkP, lkP⟩ := kP.cells
  go_wp2_with fail
  refine calls_name (fun W => Below W2.heap.size W2 W ∧ Blk W W2.heap.size #[.int .i64 (LL.hdP p f).q, .int .i64 (LL.hdP p f).s, .slice A2 p.steps.length c2, .int .i64 (LL.hdP p f).fr, .int .i64 (LL.hdP p f).by_] 44) ⟨(by repeat' (first | with_reducible exact Below.refl _ _ | with_reducible assumption | with_reducible refine b_alloc ?_ _ | with_reducible refine b_drewN ?_ _ | with_reducible refine b_drew ?_ | with_reducible refine b_set ?_ (by first | (simp only [World.size_setCell, World.size_alloc, World.size_drew]; omega) | (simp; done) | (simp; omega)) _ | with_reducible refine b_step ?_ (by with_reducible assumption))), Blk.new _ _ _⟩ ?_
  rintro W3 ⟨hE, kX⟩
  clear ekP fkP lkP
  replace hb := b_step hb hE; replace kP := kP.b hE; replace hO := hO.b hE; clear hE
  refine (spec_FlyPathOk_c p A c _ (h.mono hb)).mono ?_
  rintro e W4 ⟨rfl, hB⟩
  replace hb := b_step hb hB; replace kP := kP.b hB; replace kX := kX.b hB; replace hO := hO.b hB; clear hB
  by_cases hP : LL.PathOk p
  · rw [decide_eq_true hP]
    by_cases hl : f.length ≤ p.steps.length
    · obtain ⟨ekP, fkP, lkP⟩ := kP.cells; obtain ⟨ekX, fkX, lkX⟩ := kX.cells
      go_wp2_with fail
      refine calls_name (fun W => Below W4.heap.size W4 W) (by repeat' (first | with_reducible exact Below.refl _ _ | with_reducible assumption | with_reducible refine b_alloc ?_ _ | with_reducible refine b_drewN ?_ _ | with_reducible refine b_drew ?_ | with_reducible refine b_set ?_ (by first | (simp only [World.size_setCell, World.size_alloc, World.size_drew]; omega) | (simp; done) | (simp; omega)) _ | with_reducible refine b_step ?_ (by with_reducible assumption))) ?_; intro W5 hE; clear ekP fkP lkP ekX fkX lkX; replace hb := b_step hb hE; replace kP := kP.b hE; replace kX := kX.b hE; replace hO := hO.b hE; clear hE
      have HC := fun W hW => spec_l22Spans_c (LL.hdP p f) A2 c2 W (LL.hdP_win hP hl) hW
      rw [LL.hdP_len] at HC
      refine (HC _ (hO.rd_at' stepE)).mono ?_
      clear HC
      rintro e W6 ⟨rfl, hB⟩
      replace hb := b_step hb hB
      clear hB
      go_wp2_with fail
      go_ret
      exact ⟨rb (decide_eq_decide.2 ⟨fun h9 => ⟨hP, hl, h9⟩, fun h9 => h9.2.2⟩), (by repeat' (first | with_reducible exact Below.refl _ _ | with_reducible assumption | with_reducible refine b_alloc ?_ _ | with_reducible refine b_drewN ?_ _ | with_reducible refine b_drew ?_ | with_reducible refine b_set ?_ (by first | (simp only [World.size_setCell, World.size_alloc, World.size_drew]; omega) | (simp; done) | (simp; omega)) _ | with_reducible refine b_step ?_ (by with_reducible assumption)))⟩
    · obtain ⟨ekP, fkP, lkP⟩ := kP.cells; obtain ⟨ekX, fkX, lkX⟩ := kX.cells
      go_wp2_with fail
      go_ret
      exact ⟨rd_ (iff_of_false (fun h9 => hl h9.2.1) (by simp)), (by repeat' (first | with_reducible exact Below.refl _ _ | with_reducible assumption | with_reducible refine b_alloc ?_ _ | with_reducible refine b_drewN ?_ _ | with_reducible refine b_drew ?_ | with_reducible refine b_set ?_ (by first | (simp only [World.size_setCell, World.size_alloc, World.size_drew]; omega) | (simp; done) | (simp; omega)) _ | with_reducible refine b_step ?_ (by with_reducible assumption)))⟩
  · rw [decide_eq_false hP]
    go_wp2_with fail
    go_ret
    exact ⟨rd_ (iff_of_false (fun h9 => hP h9.1) (by simp)), (by repeat' (first | with_reducible exact Below.refl _ _ | with_reducible assumption | with_reducible refine b_alloc ?_ _ | with_reducible refine b_drewN ?_ _ | with_reducible refine b_drew ?_ | with_reducible refine b_set ?_ (by first | (simp only [World.size_setCell, World.size_alloc, World.size_drew]; omega) | (simp; done) | (simp; omega)) _ | with_reducible refine b_step ?_ (by with_reducible assumption)))⟩
set_option maxRecDepth 100000 in
set_option maxHeartbeats 4000000 in
theorem spec_l22Waits_c (p : LL.Path) (A : Option Addr) (c : Nat) (t : Int) (w : World) (h0 : 0 ≤ t) (h1 : t ≤ 10000) (h : RdS w A p.steps.length c p.steps) : Calls Try.prog 125 #[.agg #[.int .i64 p.q, .int .i64 p.s, .slice A p.steps.length c, .int .i64 p.fr, .int .i64 p.by_], .int .i64 t] w fun e w' => e = .returned (.bool (decide (LL.Waits p t))) ∧ Below w.heap.size w w' := by
  have hroom := h.room
  go_enter Try.func125, Try.ntmps125
  go_wp2_with fail
  refine calls_name (fun W => Below w.heap.size w W ∧ Blk W w.heap.size #[.int .i64 p.q, .int .i64 p.s, .slice A p.steps.length c, .int .i64 p.fr, .int .i64 p.by_] 44) ⟨(by repeat' (first | with_reducible exact Below.refl _ _ | with_reducible assumption | with_reducible refine b_alloc ?_ _ | with_reducible refine b_drewN ?_ _ | with_reducible refine b_drew ?_ | with_reducible refine b_set ?_ (by first | (simp only [World.size_setCell, World.size_alloc, World.size_drew]; omega) | (simp; done) | (simp; omega)) _ | with_reducible refine b_step ?_ (by with_reducible assumption))), (by repeat' (first | with_reducible assumption | with_reducible exact Blk.new _ _ _ | with_reducible exact Blk.new' _ _ (by first | (simp only [World.size_alloc, World.size_setCell, World.size_drew]; done) | (simp only [World.size_alloc, World.size_setCell, World.size_drew]; omega) | omega) | with_reducible refine Blk.a ?_ _ | with_reducible refine Blk.d ?_ | with_reducible refine Blk.dN ?_ _ | with_reducible refine Blk.s ?_ (by simp only [ne_eq]; omega) _ | with_reducible refine Blk.b ?_ (by with_reducible assumption)))⟩ ?_
  rintro W1 ⟨hb, kP⟩
  have hW1 := kP.cells.2.2
  refine (spec_l2Copy_c p A c _ (h.mono hb)).mono ?_
  intro e W2 hM
  obtain ⟨A2, c2, rfl, hO, hOg, hB⟩ := hM.gop
  have hO2 : ∀ k, Value.ownBlock (.slice A2 p.steps.length c2) = some k → w.heap.size < k ∧ k < W2.heap.size := fun k hk => by have := hOg k hk; have := (hO.row.lt k hk).2; omega
  replace hb := b_step hb hB; replace kP := kP.b hB; clear hB
  clear hM hOg
  have hW2 := kP.cells.2.2
  by_cases hn : 0 < p.steps.length
  · obtain ⟨g, rfl⟩ := hO.someA hn
    replace hO : Own stepC 7 56 146 W2 (.slice (some ⟨g, 0, none⟩) p.steps.length c2) (LL.tab p.steps.length (fun i => LL.nth p.steps i)) := by
      show Own stepC 7 56 146 W2 (.slice (some ⟨g, 0, none⟩) p.steps.length c2) (LL.tab p.steps.length fun i => p.steps.getD i LL.z0)
      rw [LL.tab_self]; exact hO
    have hg := hO2 g rfl
    go_wp2_with fail
    refine wp_name (fun W => Below W2.heap.size W2 W ∧ Blk W W2.heap.size #[.int .i64 p.q, .int .i64 p.s, .slice (some ⟨g, 0, none⟩) p.steps.length c2, .int .i64 p.fr, .int .i64 p.by_] 44) ⟨(by repeat' (first | with_reducible exact Below.refl _ _ | with_reducible assumption | with_reducible refine b_alloc ?_ _ | with_reducible refine b_drewN ?_ _ | with_reducible refine b_drew ?_ | with_reducible refine b_set ?_ (by first | (simp only [World.size_setCell, World.size_alloc, World.size_drew]; omega) | (simp; done) | (simp; omega)) _ | with_reducible refine b_step ?_ (by with_reducible assumption))), Blk.new _ _ _⟩ ?_
    rintro W3 ⟨hE, kX⟩
    replace hb := b_step hb hE; replace kP := kP.b hE; replace hO := hO.b hE; clear hE
    generalize W2.heap.size = gx at *
    obtain ⟨ekX, fkX, lkX⟩ := kX.cells
    obtain ⟨c4, c5, f0, gl2⟩ := hO.St 0 hn
    ((refine calm_tail_b 12 (by kernel_rfl) (by kernel_rfl) ?_); (simp only [List.take_succ_cons, List.take_zero, List.drop_succ_cons, List.drop_zero]); (repeat ((apply sure_cons (hg := rfl)); (focus ((intro w' hS'); (obtain ⟨hcS, hfS, hlS⟩ := bcell hS'); (try simp only [World.size_setCell, World.size_alloc, World.size_drew] at hS' hcS hfS hlS); (go_simp); (try go_bits); (try ((first | rw [if_pos (by omega)] | rw [if_neg (by omega)]); go_simp)); (first | (with_reducible rfl) | (with_reducible exact rfl) | (with_reducible exact ⟨rfl, hS'⟩) | (go_at_call 143; go_loud (refine (spec_l1Max_c _ _ _).mono ?_); rintro e w'' ⟨rfl, hb⟩; (first | (subst hb; exact ⟨rfl, hS'⟩) | exact ⟨rfl, b_to hS' hb (by first | exact Nat.le_refl _ | (have h1 := hS'.size; (try simp only [World.size_setCell, World.size_alloc, World.size_drew] at h1); omega))⟩))))); (simp only [Act.put, List.setIfInBounds_toArray, List.set_cons_zero, List.set_cons_succ]))); (refine sure_nil ?_))
    intro W4 hS4
    clear ekX fkX lkX
    clear c4 c5 f0 gl2
    replace hb := b_step hb hS4; replace kP := kP.b hS4; replace kX := kX.b hS4; replace hO := hO.b hS4; clear hS4
    obtain ⟨ekX, fkX, lkX⟩ := kX.cells; obtain ⟨ekP, fkP, lkP⟩ := kP.cells
    obtain ⟨c4, c5, f0, gl2⟩ := hO.St 0 hn
    go_wp2_with fail
    refine calls_name (fun W => Below w.heap.size w W ∧ Blk W w.heap.size #[.int .i64 p.q, .int .i64 p.s, .slice A p.steps.length c, .int .i64 p.fr, .int .i64 p.by_] 44 ∧ Blk W gx #[.int .i64 p.q, .int .i64 p.s, .slice (some ⟨g, 0, none⟩) p.steps.length c2, .int .i64 p.fr, .int .i64 p.by_] 44 ∧ Own stepC 7 56 146 W (.slice (some ⟨g, 0, none⟩) p.steps.length c2) (LL.wtP p t).steps) ⟨b_set hb (by simp only; omega) _, kP.s (by simp only [ne_eq]; omega) _, kX.s (by simp only [ne_eq]; omega) _, hO.updSt 0 hn 4 (x := .int .i64 (max (LL.nth p.steps 0).fr (t + 1))) (s := LL.setW (LL.nth p.steps 0) (max (LL.nth p.steps 0).fr (t + 1)) (LL.nth p.steps 0).by_) (by omega) rfl rfl⟩ ?_
    clear ekX fkX lkX ekP fkP lkP
    clear hb kP kX hO c4 c5 f0 gl2
    rintro W5 ⟨hb, kP, kX, hO⟩
    refine (spec_FlyPathOk_c p A c _ (h.mono hb)).mono ?_
    rintro e W6 ⟨rfl, hB⟩
    replace hb := b_step hb hB; replace kP := kP.b hB; replace kX := kX.b hB; replace hO := hO.b hB; clear hB
    by_cases hP : LL.PathOk p
    · rw [decide_eq_true hP]
      obtain ⟨ekX, fkX, lkX⟩ := kX.cells
      go_wp2_with fail
      refine calls_name (fun W => Below W6.heap.size W6 W) (by repeat' (first | with_reducible exact Below.refl _ _ | with_reducible assumption | with_reducible refine b_alloc ?_ _ | with_reducible refine b_drewN ?_ _ | with_reducible refine b_drew ?_ | with_reducible refine b_set ?_ (by first | (simp only [World.size_setCell, World.size_alloc, World.size_drew]; omega) | (simp; done) | (simp; omega)) _ | with_reducible refine b_step ?_ (by with_reducible assumption))) ?_; intro W7 hE; clear ekX fkX lkX; replace hb := b_step hb hE; replace kP := kP.b hE; replace kX := kX.b hE; replace hO := hO.b hE; clear hE
      have HC := fun W hW => spec_l22Spans_c (LL.wtP p t) (some ⟨g, 0, none⟩) c2 W (LL.wtP_win hP) hW
      rw [LL.wtP_len] at HC
      refine (HC _ (hO.rd_at' stepE)).mono ?_
      clear HC
      rintro e W8 ⟨rfl, hB⟩
      replace hb := b_step hb hB
      clear hB
      go_wp2_with fail
      go_ret
      exact ⟨rb (decide_eq_decide.2 ⟨fun h9 => ⟨hP, h9⟩, fun h9 => h9.2⟩), (by repeat' (first | with_reducible exact Below.refl _ _ | with_reducible assumption | with_reducible refine b_alloc ?_ _ | with_reducible refine b_drewN ?_ _ | with_reducible refine b_drew ?_ | with_reducible refine b_set ?_ (by first | (simp only [World.size_setCell, World.size_alloc, World.size_drew]; omega) | (simp; done) | (simp; omega)) _ | with_reducible refine b_step ?_ (by with_reducible assumption)))⟩
    · rw [decide_eq_false hP]
      go_wp2_with fail
      go_ret
      exact ⟨rd_ (iff_of_false (fun h9 => hP h9.1) (by simp)), (by repeat' (first | with_reducible exact Below.refl _ _ | with_reducible assumption | with_reducible refine b_alloc ?_ _ | with_reducible refine b_drewN ?_ _ | with_reducible refine b_drew ?_ | with_reducible refine b_set ?_ (by first | (simp only [World.size_setCell, World.size_alloc, World.size_drew]; omega) | (simp; done) | (simp; omega)) _ | with_reducible refine b_step ?_ (by with_reducible assumption)))⟩
  · have hP : ¬ LL.PathOk p := fun h9 => by have := h9.2.1.1; omega
    obtain ⟨ekP, fkP, lkP⟩ := kP.cells
    go_wp2_with fail
    refine calls_name (fun W => Below W2.heap.size W2 W) (by repeat' (first | with_reducible exact Below.refl _ _ | with_reducible assumption | with_reducible refine b_alloc ?_ _ | with_reducible refine b_drewN ?_ _ | with_reducible refine b_drew ?_ | with_reducible refine b_set ?_ (by first | (simp only [World.size_setCell, World.size_alloc, World.size_drew]; omega) | (simp; done) | (simp; omega)) _ | with_reducible refine b_step ?_ (by with_reducible assumption))) ?_; intro W5 hE; clear ekP fkP lkP; replace hb := b_step hb hE; replace kP := kP.b hE; clear hE
    refine (spec_FlyPathOk_c p A c _ (h.mono hb)).mono ?_
    rintro e W6 ⟨rfl, hB⟩
    replace hb := b_step hb hB; replace kP := kP.b hB; clear hB
    rw [decide_eq_false hP]
    go_wp2_with fail
    go_ret
    exact ⟨rd_ (iff_of_false (fun h9 => hP h9.1) (by simp)), (by repeat' (first | with_reducible exact Below.refl _ _ | with_reducible assumption | with_reducible refine b_alloc ?_ _ | with_reducible refine b_drewN ?_ _ | with_reducible refine b_drew ?_ | with_reducible refine b_set ?_ (by first | (simp only [World.size_setCell, World.size_alloc, World.size_drew]; omega) | (simp; done) | (simp; omega)) _ | with_reducible refine b_step ?_ (by with_reducible assumption)))⟩
set_option maxRecDepth 100000 in
set_option maxHeartbeats 4000000 in
theorem spec_l22Stays_c (p : LL.Path) (f : List Int) (A F : Option Addr) (c m : Nat) (t : Int) (w : World) (h0 : 0 ≤ t) (h1 : t ≤ 10000) (h : RdS w A p.steps.length c p.steps) (hF : RdI w F f.length m f) : Calls Try.prog 124 #[.agg #[.int .i64 p.q, .int .i64 p.s, .slice A p.steps.length c, .int .i64 p.fr, .int .i64 p.by_], .slice F f.length m, .int .i64 t] w fun e w' => e = .returned (.bool (decide (LL.Stays p f t))) ∧ Below w.heap.size w w' := by
  have hroom := h.room
  have hroom' := hF.room
  by_cases hl : f.length = 0
  · have hl2 : ((f.length : Int) == 0) = true := by simp [hl]
    have Hl := Lib.hid hl
    clear hl
    go_enter Try.func124, Try.ntmps124
    go_wp2_with fail
    refine calls_name (fun W => Below w.heap.size w W) (by repeat' (first | with_reducible exact Below.refl _ _ | with_reducible assumption | with_reducible refine b_alloc ?_ _ | with_reducible refine b_drewN ?_ _ | with_reducible refine b_drew ?_ | with_reducible refine b_set ?_ (by first | (simp only [World.size_setCell, World.size_alloc, World.size_drew]; omega) | (simp; done) | (simp; omega)) _ | with_reducible refine b_step ?_ (by with_reducible assumption))) ?_
    intro W1 hb
    refine (spec_l22Waits_c p A c t _ h0 h1 (h.mono hb)).mono ?_
    rintro e W2 ⟨rfl, hB⟩
    replace hb := b_step hb hB
    clear hB
    go_wp2_with fail
    go_ret
    exact ⟨rb (decide_eq_decide.2 (LL.stays_none Hl.out).symm), hb⟩
  · have hl2 : ((f.length : Int) == 0) = false := beq_eq_false_iff_ne.2 (by omega)
    have hl3 : 0 < f.length := by omega
    have Hl := Lib.hid hl
    clear hl
    obtain ⟨b2, off2, rfl, hbw2⟩ := hF.addr hl3
    have c0 := hF.S1 (f.length - 1) (by omega)
    go_enter Try.func124, Try.ntmps124
    go_wp2_with fail
    refine wp_name (fun W => Below w.heap.size w W ∧ Blk W w.heap.size #[.int .i64 p.q, .int .i64 p.s, .slice A p.steps.length c, .int .i64 p.fr, .int .i64 p.by_] 44) ⟨(by repeat' (first | with_reducible exact Below.refl _ _ | with_reducible assumption | with_reducible refine b_alloc ?_ _ | with_reducible refine b_drewN ?_ _ | with_reducible refine b_drew ?_ | with_reducible refine b_set ?_ (by first | (simp only [World.size_setCell, World.size_alloc, World.size_drew]; omega) | (simp; done) | (simp; omega)) _ | with_reducible refine b_step ?_ (by with_reducible assumption))), (by repeat' (first | with_reducible assumption | with_reducible exact Blk.new _ _ _ | with_reducible exact Blk.new' _ _ (by first | (simp only [World.size_alloc, World.size_setCell, World.size_drew]; done) | (simp only [World.size_alloc, World.size_setCell, World.size_drew]; omega) | omega) | with_reducible refine Blk.a ?_ _ | with_reducible refine Blk.d ?_ | with_reducible refine Blk.dN ?_ _ | with_reducible refine Blk.s ?_ (by simp only [ne_eq]; omega) _ | with_reducible refine Blk.b ?_ (by with_reducible assumption)))⟩ ?_
    rintro W1 ⟨hb, kP⟩
    obtain ⟨ekP, fkP, lkP⟩ := kP.cells
    obtain ⟨gc, gf, gl⟩ := bcell hb
    generalize hlast : LL.nthI f (f.length - 1) = la at *
    have Hlast := Lib.hid hlast
    clear hlast
    refine rel_tailf_b 12 [10] [(7, fun v W => ∃ A9 c9, v = .tuple #[.agg #[.int .i64 (LL.restM p ((f.length : Int) - 1) la t).q, .int .i64 (LL.restM p ((f.length : Int) - 1) la t).s, .slice A9 (LL.restM p ((f.length : Int) - 1) la t).steps.length c9, .int .i64 (LL.restM p ((f.length : Int) - 1) la t).fr, .int .i64 (LL.restM p ((f.length : Int) - 1) la t).by_], .bool (decide (LL.CanRest p ((f.length : Int) - 1) la t))]), (11, fun v w' => ∃ g, v = .pointer (some ⟨g, 0, none⟩) ∧ W1.heap.size ≤ g ∧ Blk w' g #[.int .i64 0, .int .i64 0, .slice none 0 0, .int .i64 0, .int .i64 0] 44)] (by kernel_rfl) (by kernel_rfl) (by intro d9 v9 c9 a9 w9 h9; cases d9 <;> exact h9) ?_
    simp only [List.take_succ_cons, List.take_zero, List.drop_succ_cons, List.drop_zero]
    iterate 7 ((apply rel_plain (hR := rfl) (hF := fun _ => trivial) (hg := rfl)); (focus ((intro w' hL'); (obtain ⟨hcS, hfS, hlS⟩ := bcell hL'); (try simp only [World.size_setCell, World.size_alloc, World.size_drew] at hcS hfS hlS); (go_simp); (try go_bits); (try (first | (rw [if_pos (by omega)]; done) | (rw [if_neg (by omega)]; done) | (rw [if_pos (by omega)]; go_simp) | (rw [if_neg (by omega)]; go_simp))); (first | with_reducible rfl | exact rfl | skip))); (simp only [Act.put, List.setIfInBounds_toArray, List.set_cons_zero, List.set_cons_succ]))
    ((apply rel_told (hR := rfl) (hg := rfl)); (focus ((intro w' hL' hD'); (obtain ⟨hcS, hfS, hlS⟩ := bcell hL'); (try simp only [World.size_setCell, World.size_alloc, World.size_drew] at hcS hfS hlS); (go_simp); (try go_bits); (try (first | (rw [if_pos (by omega)]; done) | (rw [if_neg (by omega)]; done) | (rw [if_pos (by omega)]; go_simp) | (rw [if_neg (by omega)]; go_simp))); ((go_at_call 142); (refine (spec_FlyRest_c p A c _ _ _ _ (h.mono (b_step hb hL'))).mono ?_); (intro e w'' hM); (obtain ⟨A2, c2, e2, hO2, hg2, hB⟩ := hM.gop2); (refine ⟨_, e2, hB, ?_⟩); ((repeat (first | (refine Tell.hit rfl ?_) | (refine Tell.skip rfl ?_))); exact ⟨A2, c2, rfl⟩)))); (intro v' w0' hv'); (replace hv' := Tell.out hv' rfl); (obtain ⟨A9, c9, rfl⟩ := hv'); (simp only [Act.put, List.setIfInBounds_toArray, List.set_cons_zero, List.set_cons_succ]))
    iterate 3 ((apply rel_plain (hR := rfl) (hF := fun _ => trivial) (hg := rfl)); (focus ((intro w' hL'); (obtain ⟨hcS, hfS, hlS⟩ := bcell hL'); (try simp only [World.size_setCell, World.size_alloc, World.size_drew] at hcS hfS hlS); (go_simp); (try go_bits); (try (first | (rw [if_pos (by omega)]; done) | (rw [if_neg (by omega)]; done) | (rw [if_pos (by omega)]; go_simp) | (rw [if_neg (by omega)]; go_simp))); (first | with_reducible rfl | exact rfl | skip))); (simp only [Act.put, List.setIfInBounds_toArray, List.set_cons_zero, List.set_cons_succ]))
    ((apply rel_told (hR := rfl) (hg := rfl)); (focus ((intro w' hL' hD'); (obtain ⟨hcS, hfS, hlS⟩ := bcell hL'); (try simp only [World.size_setCell, World.size_alloc, World.size_drew] at hcS hfS hlS); (go_simp); (try go_bits); (try (first | (rw [if_pos (by omega)]; done) | (rw [if_neg (by omega)]; done) | (rw [if_pos (by omega)]; go_simp) | (rw [if_neg (by omega)]; go_simp))); (refine ⟨b_alloc (Below.refl _ _) _, ?_⟩; ((repeat (first | (refine Tell.hit rfl ?_) | (refine Tell.skip rfl ?_))); exact ⟨_, rfl, hL'.size, Blk.new _ _ _⟩)))); (intro v' w0' hv'); (replace hv' := Tell.out hv' rfl); (obtain ⟨g, rfl, hgw, -⟩ := hv'); (simp only [Act.put, List.setIfInBounds_toArray, List.set_cons_zero, List.set_cons_succ]))
    refine rel_nil ?_
    intro W2 hL2 hF2
    obtain ⟨w0, hl0, g', hg', -, kG⟩ := Known.out (hF2 11) rfl
    cases hg'
    have hgG := kG.b hl0
    have hbs := hb.size
    clear ekP fkP lkP
    clear gc gf gl hF2 hl0 kG
    replace hb := b_step hb hL2; replace kP := kP.b hL2; clear hL2
    obtain ⟨ehgG, fhgG, lhgG⟩ := hgG.cells
    go_wp2_with fail
    go_ret
    exact ⟨rb (decide_eq_decide.2 (by rw [LL.stays_some Hl.out, Hlast.out])), (by repeat' (first | with_reducible exact Below.refl _ _ | with_reducible assumption | with_reducible refine b_alloc ?_ _ | with_reducible refine b_drewN ?_ _ | with_reducible refine b_drew ?_ | with_reducible refine b_set ?_ (by first | (simp only [World.size_setCell, World.size_alloc, World.size_drew]; omega) | (simp; done) | (simp; omega)) _ | with_reducible refine b_step ?_ (by with_reducible assumption)))⟩
set_option maxRecDepth 100000 in
set_option maxHeartbeats 4000000 in
theorem spec_LinkCraftOk_c (x : LL.Craft) (A F : Option Addr) (c m : Nat) (t : Int) (hs : x.name.size ≤ 9223372036854775807) (w : World) (h : RdS w A x.path.steps.length c x.path.steps) (hF : RdI w F x.flown.length m x.flown) : Calls Try.prog 89 #[.agg #[.string x.name, .int .i64 x.number, .int .i64 x.no, .int .i64 x.path.q, .int .i64 x.path.s, .slice A x.path.steps.length c, .int .i64 x.path.fr, .int .i64 x.path.by_, .slice F x.flown.length m], .int .i64 t] w fun e w' => e = .returned (.bool (decide (LL.CraftOk x t))) ∧ Below w.heap.size w w' := by
  have hroom := h.room
  have hroom' := hF.room
  go_enter Try.func89, Try.ntmps89
  go_wp2_with fail
  refine calls_name (fun W => Below w.heap.size w W ∧ Blk W w.heap.size #[.string x.name, .int .i64 x.number, .int .i64 x.no, .int .i64 x.path.q, .int .i64 x.path.s, .slice A x.path.steps.length c, .int .i64 x.path.fr, .int .i64 x.path.by_, .slice F x.flown.length m] 74) ⟨(by repeat' (first | with_reducible exact Below.refl _ _ | with_reducible assumption | with_reducible refine b_alloc ?_ _ | with_reducible refine b_drewN ?_ _ | with_reducible refine b_drew ?_ | with_reducible refine b_set ?_ (by first | (simp only [World.size_setCell, World.size_alloc, World.size_drew]; omega) | (simp; done) | (simp; omega)) _ | with_reducible refine b_step ?_ (by with_reducible assumption))), (by repeat' (first | with_reducible assumption | with_reducible exact Blk.new _ _ _ | with_reducible exact Blk.new' _ _ (by first | (simp only [World.size_alloc, World.size_setCell, World.size_drew]; done) | (simp only [World.size_alloc, World.size_setCell, World.size_drew]; omega) | omega) | with_reducible refine Blk.a ?_ _ | with_reducible refine Blk.d ?_ | with_reducible refine Blk.dN ?_ _ | with_reducible refine Blk.s ?_ (by simp only [ne_eq]; omega) _ | with_reducible refine Blk.b ?_ (by with_reducible assumption)))⟩ ?_
  rintro W1 ⟨hb, kC⟩
  refine (spec_l12NameOk_c x.name hs _).mono ?_
  rintro e W2 ⟨rfl, hB⟩
  have hBB : Below W1.heap.size W1 W2 := by subst hB; exact Below.refl _ _
  replace hb := b_step hb hBB; replace kC := kC.b hBB; clear hBB
  clear hB
  by_cases hN : LL.NameOk x.name
  · rw [decide_eq_true hN]
    obtain ⟨ekC, fkC, lkC⟩ := kC.cells
    by_cases h1 : LL.In x.number 1 1000000
    · by_cases h2 : LL.In x.no 0 1000000
      · by_cases h3 : x.no = x.number
        · have h3b : (x.no == x.number) = true := by simp [h3]
          have H3 := Lib.hid h3
          clear h3
          go_wp2_with (go_at_call 55; refine (spec_l1In_c _ _ _ _).mono ?_; rintro e w' ⟨rfl, rfl⟩)
          go_ret
          exact ⟨rd_ (iff_of_false (fun h9 => h9.2.2.2.1 H3.out) (by simp)), (by repeat' (first | with_reducible exact Below.refl _ _ | with_reducible assumption | with_reducible refine b_alloc ?_ _ | with_reducible refine b_drewN ?_ _ | with_reducible refine b_drew ?_ | with_reducible refine b_set ?_ (by first | (simp only [World.size_setCell, World.size_alloc, World.size_drew]; omega) | (simp; done) | (simp; omega)) _ | with_reducible refine b_step ?_ (by with_reducible assumption)))⟩
        · have h3b : (x.no == x.number) = false := by simp [h3]
          by_cases h4 : LL.In t 0 10000
          · obtain ⟨t0, t1⟩ := id h4
            go_wp2_with (go_at_call 55; refine (spec_l1In_c _ _ _ _).mono ?_; rintro e w' ⟨rfl, rfl⟩)
            refine calls_name (fun W => Below W2.heap.size W2 W) (by repeat' (first | with_reducible exact Below.refl _ _ | with_reducible assumption | with_reducible refine b_alloc ?_ _ | with_reducible refine b_drewN ?_ _ | with_reducible refine b_drew ?_ | with_reducible refine b_set ?_ (by first | (simp only [World.size_setCell, World.size_alloc, World.size_drew]; omega) | (simp; done) | (simp; omega)) _ | with_reducible refine b_step ?_ (by with_reducible assumption))) ?_; intro W3 hE; clear ekC fkC lkC; replace hb := b_step hb hE; replace kC := kC.b hE; clear hE
            refine (spec_l22Begun_c x.path x.flown A F c m _ (h.mono hb) (hF.mono hb)).mono ?_
            rintro e W4 ⟨rfl, hB⟩
            replace hb := b_step hb hB; replace kC := kC.b hB; clear hB
            by_cases hC : LL.CanNext x.path x.flown
            · rw [decide_eq_true hC]
              by_cases hl : 0 < x.flown.length
              · obtain ⟨b2, off2, rfl, hbw2⟩ := hF.addr hl
                have c0 := hF.S1 (x.flown.length - 1) (by omega)
                have hl2 : ((x.flown.length : Int) == 0) = false := beq_eq_false_iff_ne.2 (by omega)
                by_cases hla : LL.nthI x.flown (x.flown.length - 1) ≤ t
                · obtain ⟨gc, gf, gl⟩ := bcell hb
                  obtain ⟨ekC, fkC, lkC⟩ := kC.cells
                  go_wp2_with fail
                  clear gc gf gl
                  refine calls_name (fun W => Below W4.heap.size W4 W) (by repeat' (first | with_reducible exact Below.refl _ _ | with_reducible assumption | with_reducible refine b_alloc ?_ _ | with_reducible refine b_drewN ?_ _ | with_reducible refine b_drew ?_ | with_reducible refine b_set ?_ (by first | (simp only [World.size_setCell, World.size_alloc, World.size_drew]; omega) | (simp; done) | (simp; omega)) _ | with_reducible refine b_step ?_ (by with_reducible assumption))) ?_; intro W5 hE; clear ekC fkC lkC; replace hb := b_step hb hE; replace kC := kC.b hE; clear hE
                  refine (spec_l22Stays_c x.path x.flown A _ c m t _ t0 t1 (h.mono hb) (hF.mono hb)).mono ?_
                  rintro e W6 ⟨rfl, hB⟩
                  replace hb := b_step hb hB; replace kC := kC.b hB; clear hB
                  go_wp2_with fail
                  go_ret
                  exact ⟨rb (decide_eq_decide.2 ⟨fun h9 => ⟨hN, h1, h2, h3, h4, hC, fun _ => hla, h9⟩, fun h9 => h9.2.2.2.2.2.2.2⟩), (by repeat' (first | with_reducible exact Below.refl _ _ | with_reducible assumption | with_reducible refine b_alloc ?_ _ | with_reducible refine b_drewN ?_ _ | with_reducible refine b_drew ?_ | with_reducible refine b_set ?_ (by first | (simp only [World.size_setCell, World.size_alloc, World.size_drew]; omega) | (simp; done) | (simp; omega)) _ | with_reducible refine b_step ?_ (by with_reducible assumption)))⟩
                · obtain ⟨gc, gf, gl⟩ := bcell hb
                  obtain ⟨ekC, fkC, lkC⟩ := kC.cells
                  go_wp2_with fail
                  go_ret
                  exact ⟨rd_ (iff_of_false (fun h9 => by have h8 := h9.2.2.2.2.2.2.1 hl; omega) (by simp)), (by repeat' (first | with_reducible exact Below.refl _ _ | with_reducible assumption | with_reducible refine b_alloc ?_ _ | with_reducible refine b_drewN ?_ _ | with_reducible refine b_drew ?_ | with_reducible refine b_set ?_ (by first | (simp only [World.size_setCell, World.size_alloc, World.size_drew]; omega) | (simp; done) | (simp; omega)) _ | with_reducible refine b_step ?_ (by with_reducible assumption)))⟩
              · have hl0 : x.flown.length = 0 := by omega
                have hl2 : ((x.flown.length : Int) == 0) = true := by simp [hl0]
                clear hl0
                obtain ⟨ekC, fkC, lkC⟩ := kC.cells
                go_wp2_with fail
                refine calls_name (fun W => Below W4.heap.size W4 W) (by repeat' (first | with_reducible exact Below.refl _ _ | with_reducible assumption | with_reducible refine b_alloc ?_ _ | with_reducible refine b_drewN ?_ _ | with_reducible refine b_drew ?_ | with_reducible refine b_set ?_ (by first | (simp only [World.size_setCell, World.size_alloc, World.size_drew]; omega) | (simp; done) | (simp; omega)) _ | with_reducible refine b_step ?_ (by with_reducible assumption))) ?_; intro W5 hE; clear ekC fkC lkC; replace hb := b_step hb hE; replace kC := kC.b hE; clear hE
                refine (spec_l22Stays_c x.path x.flown A _ c m t _ t0 t1 (h.mono hb) (hF.mono hb)).mono ?_
                rintro e W6 ⟨rfl, hB⟩
                replace hb := b_step hb hB; replace kC := kC.b hB; clear hB
                go_wp2_with fail
                go_ret
                exact ⟨rb (decide_eq_decide.2 ⟨fun h9 => ⟨hN, h1, h2, h3, h4, hC, fun h8 => absurd h8 hl, h9⟩, fun h9 => h9.2.2.2.2.2.2.2⟩), (by repeat' (first | with_reducible exact Below.refl _ _ | with_reducible assumption | with_reducible refine b_alloc ?_ _ | with_reducible refine b_drewN ?_ _ | with_reducible refine b_drew ?_ | with_reducible refine b_set ?_ (by first | (simp only [World.size_setCell, World.size_alloc, World.size_drew]; omega) | (simp; done) | (simp; omega)) _ | with_reducible refine b_step ?_ (by with_reducible assumption)))⟩
            · rw [decide_eq_false hC]
              go_wp2_with fail
              go_ret
              exact ⟨rd_ (iff_of_false (fun h9 => hC h9.2.2.2.2.2.1) (by simp)), (by repeat' (first | with_reducible exact Below.refl _ _ | with_reducible assumption | with_reducible refine b_alloc ?_ _ | with_reducible refine b_drewN ?_ _ | with_reducible refine b_drew ?_ | with_reducible refine b_set ?_ (by first | (simp only [World.size_setCell, World.size_alloc, World.size_drew]; omega) | (simp; done) | (simp; omega)) _ | with_reducible refine b_step ?_ (by with_reducible assumption)))⟩
          · go_wp2_with (go_at_call 55; refine (spec_l1In_c _ _ _ _).mono ?_; rintro e w' ⟨rfl, rfl⟩)
            go_ret
            exact ⟨rd_ (iff_of_false (fun h9 => h4 h9.2.2.2.2.1) (by simp)), (by repeat' (first | with_reducible exact Below.refl _ _ | with_reducible assumption | with_reducible refine b_alloc ?_ _ | with_reducible refine b_drewN ?_ _ | with_reducible refine b_drew ?_ | with_reducible refine b_set ?_ (by first | (simp only [World.size_setCell, World.size_alloc, World.size_drew]; omega) | (simp; done) | (simp; omega)) _ | with_reducible refine b_step ?_ (by with_reducible assumption)))⟩
      · go_wp2_with (go_at_call 55; refine (spec_l1In_c _ _ _ _).mono ?_; rintro e w' ⟨rfl, rfl⟩)
        go_ret
        exact ⟨rd_ (iff_of_false (fun h9 => h2 h9.2.2.1) (by simp)), (by repeat' (first | with_reducible exact Below.refl _ _ | with_reducible assumption | with_reducible refine b_alloc ?_ _ | with_reducible refine b_drewN ?_ _ | with_reducible refine b_drew ?_ | with_reducible refine b_set ?_ (by first | (simp only [World.size_setCell, World.size_alloc, World.size_drew]; omega) | (simp; done) | (simp; omega)) _ | with_reducible refine b_step ?_ (by with_reducible assumption)))⟩
    · go_wp2_with (go_at_call 55; refine (spec_l1In_c _ _ _ _).mono ?_; rintro e w' ⟨rfl, rfl⟩)
      go_ret
      exact ⟨rd_ (iff_of_false (fun h9 => h1 h9.2.1) (by simp)), (by repeat' (first | with_reducible exact Below.refl _ _ | with_reducible assumption | with_reducible refine b_alloc ?_ _ | with_reducible refine b_drewN ?_ _ | with_reducible refine b_drew ?_ | with_reducible refine b_set ?_ (by first | (simp only [World.size_setCell, World.size_alloc, World.size_drew]; omega) | (simp; done) | (simp; omega)) _ | with_reducible refine b_step ?_ (by with_reducible assumption)))⟩
  · rw [decide_eq_false hN]
    go_wp2_with fail
    go_ret
    exact ⟨rd_ (iff_of_false (fun h9 => hN h9.1) (by simp)), (by repeat' (first | with_reducible exact Below.refl _ _ | with_reducible assumption | with_reducible refine b_alloc ?_ _ | with_reducible refine b_drewN ?_ _ | with_reducible refine b_drew ?_ | with_reducible refine b_set ?_ (by first | (simp only [World.size_setCell, World.size_alloc, World.size_drew]; omega) | (simp; done) | (simp; omega)) _ | with_reducible refine b_step ?_ (by with_reducible assumption)))⟩
end Go.Proofs.Ytkpnjnkfbhomgaa
