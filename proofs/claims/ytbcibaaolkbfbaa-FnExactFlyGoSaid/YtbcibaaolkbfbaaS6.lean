/- The first and the last flight. -/
import Derived.Test.YtbcibaaolkbfbaaS5
set_option linter.unusedVariables false
set_option linter.unusedSimpArgs false
namespace Go.Proofs.Ytbcibaaolkbfbaa
open Go.RowKit
attribute [local go_sem] w_lt_add w_le_of w_le_add max2_i min2_i
def LL.firstM (p : LL.Path) : List Int := (LL.spansM p).map (·.lo)
def LL.lastM (p : LL.Path) : List Int := (LL.spansM p).map (·.hi)
theorem LL.map_tab {α β : Type} (xs : List α) (d : α) (f : α → β) : xs.map f = LL.tab xs.length fun i => f (xs.getD i d) := by
  apply List.ext_getElem?
  intro i
  by_cases h : i < xs.length <;> simp [LL.tab, h, List.getD_eq_getElem?_getD]
theorem own_two {v v' : Value} {n m : Nat} (h : v.ownBlock = v'.ownBlock ∨ v.ownBlock = some n) {b : Nat} (hb : v.ownBlock = some b) (P : Nat → Prop) (h1 : ∀ k, v'.ownBlock = some k → P k) (h2 : P n) : P b := by
  rcases h with h | h
  · exact h1 b (h ▸ hb)
  · rw [h] at hb; cases hb; exact h2
theorem LL.map_len {α β : Type} (xs : List α) (f : α → β) : (xs.map f).length = xs.length := List.length_map ..
set_option maxRecDepth 100000 in
set_option maxHeartbeats 2000000 in
theorem impl_FlyFirst_c (p : LL.Path) (A : Option Addr) (c : Nat) (w : World) (h : RdS w A p.steps.length c p.steps) : Calls Try.prog 32 #[.agg #[.int .i64 p.q, .int .i64 p.s, .slice A p.steps.length c, .int .i64 p.fr, .int .i64 p.by_]] w (Mk intC 1 8 3 w (LL.firstM p)) := by
  unfold LL.firstM
  generalize hxs : LL.spansM p = xs
  have Hxs := Lib.hid hxs
  clear hxs
  go_enter Try.func32, Try.ntmps32
  go_wp2_with (go_at_call 27; go_loud (refine (impl_FlySpans_c p A c _ (by exact Rd.mono (by with_reducible assumption) (by repeat' (first | with_reducible exact Below.refl _ _ | with_reducible assumption | with_reducible refine b_alloc ?_ _ | with_reducible refine b_drewN ?_ _ | with_reducible refine b_drew ?_ | with_reducible refine b_set ?_ (by first | (simp only [World.size_setCell, World.size_alloc, World.size_drew]; omega) | (simp; done) | (simp; omega)) _ | with_reducible refine b_step ?_ (by with_reducible assumption))))).mono ?_); intro e w2 hM; rw [Hxs.out] at hM; obtain ⟨As, cs, rfl, hS, hSg, hB⟩ := hM.go2 spanE; have hz := hB.size; (try simp only [World.size_alloc] at hz hSg))
  have hroom := hS.room
  have hb := b_step (w := w) (by repeat' (first | with_reducible exact Below.refl _ _ | with_reducible assumption | with_reducible refine b_alloc ?_ _ | with_reducible refine b_drewN ?_ _ | with_reducible refine b_drew ?_ | with_reducible refine b_set ?_ (by first | (simp only [World.size_setCell, World.size_alloc, World.size_drew]; omega) | (simp; done) | (simp; omega)) _ | with_reducible refine b_step ?_ (by with_reducible assumption))) hB
  have hB0 := hB
  clear Hxs hB
  go_loopw [5, 16] (fun o i wr => ∃ k : Nat, k ≤ xs.length ∧ i = .int .i64 k ∧ Own intC 1 8 3 wr o (LL.tab k (fun i => (xs.getD i LL.sp0).lo)) ∧ Own spanC 2 16 52 wr (.slice As xs.length cs) xs ∧ (∀ b, o.ownBlock = some b → w.heap.size ≤ b ∧ Value.ownBlock (.slice As xs.length cs) ≠ some b) ∧ Below w.heap.size w wr) (fun _ i _ => xs.length - (intOf i).toNat)
  case atStart => exact ⟨0, Nat.zero_le _, rfl, by rw [LL.tab_zero]; exact Own.made' (by simp), hS.a _, (fun b hb => by simp [Value.ownBlock] at hb; subst hb; exact ⟨by omega, fun e => by have := (hS.row.lt _ e).2; omega⟩), (by repeat' (first | with_reducible exact Below.refl _ _ | with_reducible assumption | with_reducible refine b_alloc ?_ _ | with_reducible refine b_drewN ?_ _ | with_reducible refine b_drew ?_ | with_reducible refine b_set ?_ (by first | (simp only [World.size_setCell, World.size_alloc, World.size_drew]; omega) | (simp; done) | (simp; omega)) _ | with_reducible refine b_step ?_ (by with_reducible assumption)))⟩
  case round =>
    clear hS hb hz hB0
    obtain ⟨k, hk, rfl, hO, hS, hge, hb⟩ := hrel
    by_cases hlt : k < xs.length
    · obtain ⟨g, rfl⟩ := hS.someA (by omega)
      have h2 := (hS.rd_at' spanE).S2 k hlt
      simp only [Nat.zero_add] at h2
      obtain ⟨c0, c1⟩ := h2
      have hgl := (hS.row.lt _ rfl).2
      dsimp only at hgl
      go_wp2_with ((at_builtin; go_loud (refine wp_app (bytes := 8) (e := 3) rfl _ _ _ rfl intE (.int .i64 0) Try.underlying27 (by kernel_rfl) rfl (by decide) (v := u5) rfl ((hO.a _).a _) rfl (Rd.one (x := ((xs.getD k LL.sp0).lo : Int)) (Blk.new' _ _ (by simp)) rfl (by decide)) (by rw [LL.tab_len]; omega) ?_); intro v7 w7 hO7 hg7 hat7))
      rw [LL.tab_snoc k (fun i => (xs.getD i LL.sp0).lo)] at hO7
      have hz := hg7.size
      (try simp only [World.size_alloc] at hz hat7)
      go_roundw
      case rel => exact ⟨k + 1, by omega, by go_num, hO7, Own.grown ((hS.a _).a _) hg7 (by
        cases hv : u5.ownBlock with
        | none => exact .inr (by simp [Value.ownBlock])
        | some b => exact .inr (hge b hv).2), (fun b hb => own_two (n := _) (m := 0) hat7 hb (fun b => w.heap.size ≤ b ∧ Value.ownBlock (.slice (some ⟨g, 0, none⟩) xs.length cs) ≠ some b) hge ⟨by have := ‹Below w.heap.size w wr›.size; omega, by simp [Value.ownBlock]; omega⟩), b_grown' (w := w) (by repeat' (first | with_reducible exact Below.refl _ _ | with_reducible assumption | with_reducible refine b_alloc ?_ _ | with_reducible refine b_drewN ?_ _ | with_reducible refine b_drew ?_ | with_reducible refine b_set ?_ (by first | (simp only [World.size_setCell, World.size_alloc, World.size_drew]; omega) | (simp; done) | (simp; omega)) _ | with_reducible refine b_step ?_ (by with_reducible assumption))) hg7 (by have := hb.size; simp; omega) (fun g' hg' => (hge _ hg').1)⟩
      case measure => simp [intOf]; omega
    · obtain rfl : k = xs.length := by omega
      go_wp2
      go_ret
      refine ⟨_, rfl, by rw [LL.map_tab xs LL.sp0]; exact hO, fun b hb => (hge b hb).1, hb⟩
set_option maxRecDepth 100000 in
set_option maxHeartbeats 2000000 in
theorem impl_FlyLast_c (p : LL.Path) (A : Option Addr) (c : Nat) (w : World) (h : RdS w A p.steps.length c p.steps) : Calls Try.prog 36 #[.agg #[.int .i64 p.q, .int .i64 p.s, .slice A p.steps.length c, .int .i64 p.fr, .int .i64 p.by_]] w (Mk intC 1 8 3 w (LL.lastM p)) := by
  unfold LL.lastM
  generalize hxs : LL.spansM p = xs
  have Hxs := Lib.hid hxs
  clear hxs
  go_enter Try.func36, Try.ntmps36
  go_wp2_with (go_at_call 27; go_loud (refine (impl_FlySpans_c p A c _ (by exact Rd.mono (by with_reducible assumption) (by repeat' (first | with_reducible exact Below.refl _ _ | with_reducible assumption | with_reducible refine b_alloc ?_ _ | with_reducible refine b_drewN ?_ _ | with_reducible refine b_drew ?_ | with_reducible refine b_set ?_ (by first | (simp only [World.size_setCell, World.size_alloc, World.size_drew]; omega) | (simp; done) | (simp; omega)) _ | with_reducible refine b_step ?_ (by with_reducible assumption))))).mono ?_); intro e w2 hM; rw [Hxs.out] at hM; obtain ⟨As, cs, rfl, hS, hSg, hB⟩ := hM.go2 spanE; have hz := hB.size; (try simp only [World.size_alloc] at hz hSg))
  have hroom := hS.room
  have hb := b_step (w := w) (by repeat' (first | with_reducible exact Below.refl _ _ | with_reducible assumption | with_reducible refine b_alloc ?_ _ | with_reducible refine b_drewN ?_ _ | with_reducible refine b_drew ?_ | with_reducible refine b_set ?_ (by first | (simp only [World.size_setCell, World.size_alloc, World.size_drew]; omega) | (simp; done) | (simp; omega)) _ | with_reducible refine b_step ?_ (by with_reducible assumption))) hB
  have hB0 := hB
  clear Hxs hB
  go_loopw [5, 16] (fun o i wr => ∃ k : Nat, k ≤ xs.length ∧ i = .int .i64 k ∧ Own intC 1 8 3 wr o (LL.tab k (fun i => (xs.getD i LL.sp0).hi)) ∧ Own spanC 2 16 52 wr (.slice As xs.length cs) xs ∧ (∀ b, o.ownBlock = some b → w.heap.size ≤ b ∧ Value.ownBlock (.slice As xs.length cs) ≠ some b) ∧ Below w.heap.size w wr) (fun _ i _ => xs.length - (intOf i).toNat)
  case atStart => exact ⟨0, Nat.zero_le _, rfl, by rw [LL.tab_zero]; exact Own.made' (by simp), hS.a _, (fun b hb => by simp [Value.ownBlock] at hb; subst hb; exact ⟨by omega, fun e => by have := (hS.row.lt _ e).2; omega⟩), (by repeat' (first | with_reducible exact Below.refl _ _ | with_reducible assumption | with_reducible refine b_alloc ?_ _ | with_reducible refine b_drewN ?_ _ | with_reducible refine b_drew ?_ | with_reducible refine b_set ?_ (by first | (simp only [World.size_setCell, World.size_alloc, World.size_drew]; omega) | (simp; done) | (simp; omega)) _ | with_reducible refine b_step ?_ (by with_reducible assumption)))⟩
  case round =>
    clear hS hb hz hB0
    obtain ⟨k, hk, rfl, hO, hS, hge, hb⟩ := hrel
    by_cases hlt : k < xs.length
    · obtain ⟨g, rfl⟩ := hS.someA (by omega)
      have h2 := (hS.rd_at' spanE).S2 k hlt
      simp only [Nat.zero_add] at h2
      obtain ⟨c0, c1⟩ := h2
      have hgl := (hS.row.lt _ rfl).2
      dsimp only at hgl
      go_wp2_with ((at_builtin; go_loud (refine wp_app (bytes := 8) (e := 3) rfl _ _ _ rfl intE (.int .i64 0) Try.underlying27 (by kernel_rfl) rfl (by decide) (v := u5) rfl ((hO.a _).a _) rfl (Rd.one (x := ((xs.getD k LL.sp0).hi : Int)) (Blk.new' _ _ (by simp)) rfl (by decide)) (by rw [LL.tab_len]; omega) ?_); intro v7 w7 hO7 hg7 hat7))
      rw [LL.tab_snoc k (fun i => (xs.getD i LL.sp0).hi)] at hO7
      have hz := hg7.size
      (try simp only [World.size_alloc] at hz hat7)
      go_roundw
      case rel => exact ⟨k + 1, by omega, by go_num, hO7, Own.grown ((hS.a _).a _) hg7 (by
        cases hv : u5.ownBlock with
        | none => exact .inr (by simp [Value.ownBlock])
        | some b => exact .inr (hge b hv).2), (fun b hb => own_two (n := _) (m := 0) hat7 hb (fun b => w.heap.size ≤ b ∧ Value.ownBlock (.slice (some ⟨g, 0, none⟩) xs.length cs) ≠ some b) hge ⟨by have := ‹Below w.heap.size w wr›.size; omega, by simp [Value.ownBlock]; omega⟩), b_grown' (w := w) (by repeat' (first | with_reducible exact Below.refl _ _ | with_reducible assumption | with_reducible refine b_alloc ?_ _ | with_reducible refine b_drewN ?_ _ | with_reducible refine b_drew ?_ | with_reducible refine b_set ?_ (by first | (simp only [World.size_setCell, World.size_alloc, World.size_drew]; omega) | (simp; done) | (simp; omega)) _ | with_reducible refine b_step ?_ (by with_reducible assumption))) hg7 (by have := hb.size; simp; omega) (fun g' hg' => (hge _ hg').1)⟩
      case measure => simp [intOf]; omega
    · obtain rfl : k = xs.length := by omega
      go_wp2
      go_ret
      refine ⟨_, rfl, by rw [LL.map_tab xs LL.sp0]; exact hO, fun b hb => (hge b hb).1, hb⟩
set_option maxRecDepth 100000 in
set_option maxHeartbeats 2000000 in
theorem spec_FlyFirst_c (p : LL.Path) (A : Option Addr) (c : Nat) (w : World) (h : RdS w A p.steps.length c p.steps) : Calls Try.prog 31 #[.agg #[.int .i64 p.q, .int .i64 p.s, .slice A p.steps.length c, .int .i64 p.fr, .int .i64 p.by_]] w (Mk intC 1 8 3 w (LL.firstM p)) := by
  unfold LL.firstM
  generalize hxs : LL.spansM p = xs
  have Hxs := Lib.hid hxs
  clear hxs
  go_enter Try.func31, Try.ntmps31
  go_wp2_with (go_at_call 26; go_loud (refine (spec_FlySpans_c p A c _ (by exact Rd.mono (by with_reducible assumption) (by repeat' (first | with_reducible exact Below.refl _ _ | with_reducible assumption | with_reducible refine b_alloc ?_ _ | with_reducible refine b_drewN ?_ _ | with_reducible refine b_drew ?_ | with_reducible refine b_set ?_ (by first | (simp only [World.size_setCell, World.size_alloc, World.size_drew]; omega) | (simp; done) | (simp; omega)) _ | with_reducible refine b_step ?_ (by with_reducible assumption))))).mono ?_); intro e w2 hM; rw [Hxs.out] at hM; obtain ⟨As, cs, rfl, hS, hSg, hB⟩ := hM.go2 spanE; have hz := hB.size; (try simp only [World.size_alloc] at hz hSg))
  have hroom := hS.room
  have hb := b_step (w := w) (by repeat' (first | with_reducible exact Below.refl _ _ | with_reducible assumption | with_reducible refine b_alloc ?_ _ | with_reducible refine b_drewN ?_ _ | with_reducible refine b_drew ?_ | with_reducible refine b_set ?_ (by first | (simp only [World.size_setCell, World.size_alloc, World.size_drew]; omega) | (simp; done) | (simp; omega)) _ | with_reducible refine b_step ?_ (by with_reducible assumption))) hB
  have hB0 := hB
  clear Hxs hB
  go_loopw [3, 6] (fun o i wr => ∃ k : Nat, k ≤ xs.length ∧ i = .int .i64 k ∧ Own intC 1 8 3 wr o (LL.tab k (fun i => (xs.getD i LL.sp0).lo)) ∧ Own spanC 2 16 52 wr (.slice As xs.length cs) xs ∧ (∀ b, o.ownBlock = some b → w.heap.size ≤ b ∧ Value.ownBlock (.slice As xs.length cs) ≠ some b) ∧ Below w.heap.size w wr) (fun _ i _ => xs.length - (intOf i).toNat)
  case atStart => exact ⟨0, Nat.zero_le _, rfl, by rw [LL.tab_zero]; exact (Own.made' (by simp)).b hB0, hS, (fun b hb => by simp [Value.ownBlock] at hb; subst hb; exact ⟨by omega, fun e => by have := hSg _ e; omega⟩), (by repeat' (first | with_reducible exact Below.refl _ _ | with_reducible assumption | with_reducible refine b_alloc ?_ _ | with_reducible refine b_drewN ?_ _ | with_reducible refine b_drew ?_ | with_reducible refine b_set ?_ (by first | (simp only [World.size_setCell, World.size_alloc, World.size_drew]; omega) | (simp; done) | (simp; omega)) _ | with_reducible refine b_step ?_ (by with_reducible assumption)))⟩
  case round =>
    clear hS hb hz hB0
    obtain ⟨k, hk, rfl, hO, hS, hge, hb⟩ := hrel
    by_cases hlt : k < xs.length
    · obtain ⟨g, rfl⟩ := hS.someA (by omega)
      have h2 := (hS.rd_at' spanE).S2 k hlt
      simp only [Nat.zero_add] at h2
      obtain ⟨c0, c1⟩ := h2
      have hgl := (hS.row.lt _ rfl).2
      dsimp only at hgl
      go_wp2_with ((at_builtin; go_loud (refine wp_app (bytes := 8) (e := 3) rfl _ _ _ rfl intE (.int .i64 0) Try.underlying27 (by kernel_rfl) rfl (by decide) (v := u3) rfl (hO.a _) rfl (Rd.one (x := ((xs.getD k LL.sp0).lo : Int)) (Blk.new' _ _ (by simp)) rfl (by decide)) (by rw [LL.tab_len]; omega) ?_); intro v7 w7 hO7 hg7 hat7))
      rw [LL.tab_snoc k (fun i => (xs.getD i LL.sp0).lo)] at hO7
      have hz := hg7.size
      (try simp only [World.size_alloc] at hz hat7)
      go_roundw
      case rel => exact ⟨k + 1, by omega, by go_num, hO7, Own.grown (hS.a _) hg7 (by
        cases hv : u3.ownBlock with
        | none => exact .inr (by simp [Value.ownBlock])
        | some b => exact .inr (hge b hv).2), (fun b hb => own_two (n := _) (m := 0) hat7 hb (fun b => w.heap.size ≤ b ∧ Value.ownBlock (.slice (some ⟨g, 0, none⟩) xs.length cs) ≠ some b) hge ⟨by have := ‹Below w.heap.size w wr›.size; omega, by simp [Value.ownBlock]; omega⟩), b_grown' (w := w) (by repeat' (first | with_reducible exact Below.refl _ _ | with_reducible assumption | with_reducible refine b_alloc ?_ _ | with_reducible refine b_drewN ?_ _ | with_reducible refine b_drew ?_ | with_reducible refine b_set ?_ (by first | (simp only [World.size_setCell, World.size_alloc, World.size_drew]; omega) | (simp; done) | (simp; omega)) _ | with_reducible refine b_step ?_ (by with_reducible assumption))) hg7 (by have := hb.size; simp; omega) (fun g' hg' => (hge _ hg').1)⟩
      case measure => simp [intOf]; omega
    · obtain rfl : k = xs.length := by omega
      go_wp2
      go_ret
      refine ⟨_, rfl, by rw [LL.map_tab xs LL.sp0]; exact hO, fun b hb => (hge b hb).1, hb⟩
set_option maxRecDepth 100000 in
set_option maxHeartbeats 2000000 in
theorem spec_FlyLast_c (p : LL.Path) (A : Option Addr) (c : Nat) (w : World) (h : RdS w A p.steps.length c p.steps) : Calls Try.prog 35 #[.agg #[.int .i64 p.q, .int .i64 p.s, .slice A p.steps.length c, .int .i64 p.fr, .int .i64 p.by_]] w (Mk intC 1 8 3 w (LL.lastM p)) := by
  unfold LL.lastM
  generalize hxs : LL.spansM p = xs
  have Hxs := Lib.hid hxs
  clear hxs
  go_enter Try.func35, Try.ntmps35
  go_wp2_with (go_at_call 26; go_loud (refine (spec_FlySpans_c p A c _ (by exact Rd.mono (by with_reducible assumption) (by repeat' (first | with_reducible exact Below.refl _ _ | with_reducible assumption | with_reducible refine b_alloc ?_ _ | with_reducible refine b_drewN ?_ _ | with_reducible refine b_drew ?_ | with_reducible refine b_set ?_ (by first | (simp only [World.size_setCell, World.size_alloc, World.size_drew]; omega) | (simp; done) | (simp; omega)) _ | with_reducible refine b_step ?_ (by with_reducible assumption))))).mono ?_); intro e w2 hM; rw [Hxs.out] at hM; obtain ⟨As, cs, rfl, hS, hSg, hB⟩ := hM.go2 spanE; have hz := hB.size; (try simp only [World.size_alloc] at hz hSg))
  have hroom := hS.room
  have hb := b_step (w := w) (by repeat' (first | with_reducible exact Below.refl _ _ | with_reducible assumption | with_reducible refine b_alloc ?_ _ | with_reducible refine b_drewN ?_ _ | with_reducible refine b_drew ?_ | with_reducible refine b_set ?_ (by first | (simp only [World.size_setCell, World.size_alloc, World.size_drew]; omega) | (simp; done) | (simp; omega)) _ | with_reducible refine b_step ?_ (by with_reducible assumption))) hB
  have hB0 := hB
  clear Hxs hB
  go_loopw [3, 6] (fun o i wr => ∃ k : Nat, k ≤ xs.length ∧ i = .int .i64 k ∧ Own intC 1 8 3 wr o (LL.tab k (fun i => (xs.getD i LL.sp0).hi)) ∧ Own spanC 2 16 52 wr (.slice As xs.length cs) xs ∧ (∀ b, o.ownBlock = some b → w.heap.size ≤ b ∧ Value.ownBlock (.slice As xs.length cs) ≠ some b) ∧ Below w.heap.size w wr) (fun _ i _ => xs.length - (intOf i).toNat)
  case atStart => exact ⟨0, Nat.zero_le _, rfl, by rw [LL.tab_zero]; exact (Own.made' (by simp)).b hB0, hS, (fun b hb => by simp [Value.ownBlock] at hb; subst hb; exact ⟨by omega, fun e => by have := hSg _ e; omega⟩), (by repeat' (first | with_reducible exact Below.refl _ _ | with_reducible assumption | with_reducible refine b_alloc ?_ _ | with_reducible refine b_drewN ?_ _ | with_reducible refine b_drew ?_ | with_reducible refine b_set ?_ (by first | (simp only [World.size_setCell, World.size_alloc, World.size_drew]; omega) | (simp; done) | (simp; omega)) _ | with_reducible refine b_step ?_ (by with_reducible assumption)))⟩
  case round =>
    clear hS hb hz hB0
    obtain ⟨k, hk, rfl, hO, hS, hge, hb⟩ := hrel
    by_cases hlt : k < xs.length
    · obtain ⟨g, rfl⟩ := hS.someA (by omega)
      have h2 := (hS.rd_at' spanE).S2 k hlt
      simp only [Nat.zero_add] at h2
      obtain ⟨c0, c1⟩ := h2
      have hgl := (hS.row.lt _ rfl).2
      dsimp only at hgl
      go_wp2_with ((at_builtin; go_loud (refine wp_app (bytes := 8) (e := 3) rfl _ _ _ rfl intE (.int .i64 0) Try.underlying27 (by kernel_rfl) rfl (by decide) (v := u3) rfl (hO.a _) rfl (Rd.one (x := ((xs.getD k LL.sp0).hi : Int)) (Blk.new' _ _ (by simp)) rfl (by decide)) (by rw [LL.tab_len]; omega) ?_); intro v7 w7 hO7 hg7 hat7))
      rw [LL.tab_snoc k (fun i => (xs.getD i LL.sp0).hi)] at hO7
      have hz := hg7.size
      (try simp only [World.size_alloc] at hz hat7)
      go_roundw
      case rel => exact ⟨k + 1, by omega, by go_num, hO7, Own.grown (hS.a _) hg7 (by
        cases hv : u3.ownBlock with
        | none => exact .inr (by simp [Value.ownBlock])
        | some b => exact .inr (hge b hv).2), (fun b hb => own_two (n := _) (m := 0) hat7 hb (fun b => w.heap.size ≤ b ∧ Value.ownBlock (.slice (some ⟨g, 0, none⟩) xs.length cs) ≠ some b) hge ⟨by have := ‹Below w.heap.size w wr›.size; omega, by simp [Value.ownBlock]; omega⟩), b_grown' (w := w) (by repeat' (first | with_reducible exact Below.refl _ _ | with_reducible assumption | with_reducible refine b_alloc ?_ _ | with_reducible refine b_drewN ?_ _ | with_reducible refine b_drew ?_ | with_reducible refine b_set ?_ (by first | (simp only [World.size_setCell, World.size_alloc, World.size_drew]; omega) | (simp; done) | (simp; omega)) _ | with_reducible refine b_step ?_ (by with_reducible assumption))) hg7 (by have := hb.size; simp; omega) (fun g' hg' => (hge _ hg').1)⟩
      case measure => simp [intOf]; omega
    · obtain rfl : k = xs.length := by omega
      go_wp2
      go_ret
      refine ⟨_, rfl, by rw [LL.map_tab xs LL.sp0]; exact hO, fun b hb => (hge b hb).1, hb⟩
end Go.Proofs.Ytbcibaaolkbfbaa
