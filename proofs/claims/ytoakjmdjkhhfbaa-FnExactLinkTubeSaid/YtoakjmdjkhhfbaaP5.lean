/- The tube of a path from a tick on: LinkTube of the program and of the reference. -/
import Derived.Test.YtoakjmdjkhhfbaaP4
import Derived.Test.YtoakjmdjkhhfbaaS7
import Derived.Test.YtoakjmdjkhhfbaaK3
set_option linter.unusedVariables false
set_option linter.unusedSimpArgs false
namespace Go.Proofs.Ytoakjmdjkhhfbaa
open Go.RowKit
attribute [local go_sem] w_lt_add w_le_of w_le_add max2_i min2_i
theorem LL.tubeM_len (p : LL.Path) : (LL.tubeM p).length ≤ p.steps.length := by
  unfold LL.tubeM; split
  · rw [LL.tab_len]; exact Nat.le_refl _
  · simp
def LL.tk (xs : List LL.Box) (k : Nat) : List LL.Box := xs.take k
theorem LL.tk_len (xs : List LL.Box) (k : Nat) : (LL.tk xs k).length ≤ k := List.length_take_le _ _
theorem LL.tk_all (xs : List LL.Box) : LL.tk xs xs.length = xs := List.take_length
theorem LL.tk_on {xs : List LL.Box} {k : Nat} (h : k < xs.length) : LL.tk xs (k + 1) = LL.tk xs k ++ [LL.nthB xs k] := LL.take_nthB h
set_option maxRecDepth 100000 in
set_option maxHeartbeats 4000000 in
theorem impl_LinkTube_c (s : ByteArray) (p : LL.Path) (A : Option Addr) (c : Nat) (t : Int) (hs : s.size ≤ 9223372036854775807) (w : World) (h : RdS w A p.steps.length c p.steps) : Calls Try.prog 45 #[.string s, .agg #[.int .i64 p.q, .int .i64 p.s, .slice A p.steps.length c, .int .i64 p.fr, .int .i64 p.by_], .int .i64 t] w (MkT 116 w (LL.cutN s (LL.tubeM p)) (LL.cutL s (LL.tubeM p) t)) := by
  have hroom := h.room
  have hlx := LL.tubeM_len p
  go_enter Try.func45, Try.ntmps45
  go_wp2_with fail
  refine calls_name (fun W => Below w.heap.size w W ∧ Blk W (w.heap.size + 1) #[.string ⟨#[]⟩, .slice none 0 0] 39 ∧ Blk W (w.heap.size + 1 + 1) #[.string s, .slice none 0 0] 39) ⟨(by repeat' (first | with_reducible exact Below.refl _ _ | with_reducible assumption | with_reducible refine b_alloc ?_ _ | with_reducible refine b_drewN ?_ _ | with_reducible refine b_drew ?_ | with_reducible refine b_set ?_ (by first | (simp only [World.size_setCell, World.size_alloc, World.size_drew]; omega) | (simp; done) | (simp; omega)) _ | with_reducible refine b_step ?_ (by with_reducible assumption))), (by repeat' (first | with_reducible assumption | with_reducible exact Blk.new _ _ _ | with_reducible exact Blk.new' _ _ (by first | (simp only [World.size_alloc, World.size_setCell, World.size_drew]; done) | (simp only [World.size_alloc, World.size_setCell, World.size_drew]; omega) | omega) | with_reducible refine Blk.a ?_ _ | with_reducible refine Blk.d ?_ | with_reducible refine Blk.dN ?_ _ | with_reducible refine Blk.s ?_ (by simp only [ne_eq]; omega) _ | with_reducible refine Blk.b ?_ (by with_reducible assumption))), (by repeat' (first | with_reducible assumption | with_reducible exact Blk.new _ _ _ | with_reducible exact Blk.new' _ _ (by first | (simp only [World.size_alloc, World.size_setCell, World.size_drew]; done) | (simp only [World.size_alloc, World.size_setCell, World.size_drew]; omega) | omega) | with_reducible refine Blk.a ?_ _ | with_reducible refine Blk.d ?_ | with_reducible refine Blk.dN ?_ _ | with_reducible refine Blk.s ?_ (by simp only [ne_eq]; omega) _ | with_reducible refine Blk.b ?_ (by with_reducible assumption)))⟩ ?_
  rintro W1 ⟨hb, kR, kX⟩
  have hX1 := kX.cells.2.2
  refine (impl_FlyTube_c p A c _ (h.mono hb)).mono ?_
  generalize LL.tubeM p = xs at *
  intro e W2 hM
  obtain ⟨Ab, cb, rfl, hS, hSg, hB⟩ := hM.go boxE
  have hgx : w.heap.size + 1 < w.heap.size + 1 + 1 := by omega
  generalize hgg : w.heap.size + 1 + 1 = gx at *
  have Hgg := Lib.hid hgg
  clear hgg
  have hS2 : ∀ b, Value.ownBlock (.slice Ab xs.length cb) = some b → w.heap.size + 1 < b ∧ b ≠ gx := fun b hb => by have := hSg b hb; omega
  replace hb := b_step hb hB; replace kR := kR.b hB; replace kX := kX.b hB; clear hB
  clear hM hSg
  go_wp2_with fail
  go_loopw [15] (fun i wr => ∃ (k : Nat) (Ao : Option Addr) (co : Nat), k ≤ xs.length ∧ i = .int .i64 k ∧ Below w.heap.size w wr ∧ Blk wr (w.heap.size + 1) #[.string ⟨#[]⟩, .slice none 0 0] 39 ∧ Blk wr gx #[.string s, .slice Ao (LL.tk xs k).length co] 39 ∧ Own boxC 6 48 116 wr (.slice Ao (LL.tk xs k).length co) (LL.tk xs k) ∧ (∀ b, Value.ownBlock (.slice Ao (LL.tk xs k).length co) = some b → w.heap.size + 1 < b ∧ b ≠ gx) ∧ Own boxC 6 48 137 wr (.slice Ab xs.length cb) xs ∧ (∀ b, Value.ownBlock (.slice Ab xs.length cb) = some b → w.heap.size + 1 < b ∧ b ≠ gx)) (fun i _ => xs.length - (intOf i).toNat)
  case atStart => exact ⟨0, none, 0, Nat.zero_le _, rfl, hb, kR, kX, ⟨World.ownsRow_nil _ _ _ _, by simp [LL.tk]⟩, (fun b hb => by simp [Value.ownBlock] at hb), hS, hS2⟩
  case round =>
    clear hb kR kX hS hS2
    obtain ⟨k, Ao, co, hk, rfl, hb, kR, kX, hO, hO2, hS, hS2⟩ := hrel
    by_cases hlt : k < xs.length
    · have hOb := fun b hb => (hO.row.lt b hb).2
      have hSb := fun b hb => (hS.row.lt b hb).2
      have hgb := kX.cells.2.2
      have hRb := kR.cells.2.2
      have hlen : (LL.tk xs k).length ≤ k := LL.tk_len _ _
      have hdis := own_kinds hO hS (by decide)
      obtain ⟨g, rfl⟩ := hS.someA (by omega)
      obtain ⟨c0, c1, c2, c3, c4, c5⟩ := (hS.rd_at' boxE).S6 k hlt
      simp only [Nat.zero_add] at c0 c1 c2 c3 c4 c5
      have hgl := (hS.row.lt _ rfl).2
      have hgx := (hS2 _ rfl)
      dsimp only at hgl hgx
      obtain ⟨ekX, fkX, lkX⟩ := kX.cells
      have E := LL.tk_on hlt
      have Hlen := Lib.hid hlen
      clear hlen
      go_wp2_with (at_builtin; go_loud (refine wp_app (xs := LL.tk xs k) (ys := [LL.nthB xs k]) (bytes := 48) (e := 116) rfl _ _ _ rfl boxE (.agg (boxC LL.b0).toArray) Try.underlying37 (by kernel_rfl) rfl (by decide) (v := .slice Ao (LL.tk xs k).length co) rfl (by repeat' (first | with_reducible assumption | with_reducible refine Own.s ?_ _ (fun k hk => by have := hOb k hk; (try simp only); omega) | with_reducible refine Own.a ?_ _ | with_reducible refine Own.d ?_ | with_reducible refine Own.dN ?_ _ | with_reducible refine Own.b ?_ (by with_reducible assumption))) rfl (Rd.one (x := LL.nthB xs k) (Blk.new' _ _ (by simp)) rfl (by decide)) (by have := Hlen.out; omega) ?_); intro v7 w7 hO7 hg7 hat7; obtain ⟨A7, c7, rfl, -⟩ := hO7.rd boxE; have kX7 : Blk w7 gx #[.string s, .slice Ao (LL.tk xs k).length co] 39 := (by refine Blk.grown ?_ hg7 (fun e9 => (hO2 _ e9).2 rfl); exact (by repeat' (first | with_reducible assumption | with_reducible exact Blk.new _ _ _ | with_reducible exact Blk.new' _ _ (by first | (simp only [World.size_alloc, World.size_setCell, World.size_drew]; done) | (simp only [World.size_alloc, World.size_setCell, World.size_drew]; omega) | omega) | with_reducible refine Blk.a ?_ _ | with_reducible refine Blk.d ?_ | with_reducible refine Blk.dN ?_ _ | with_reducible refine Blk.s ?_ (by simp only [ne_eq]; omega) _ | with_reducible refine Blk.b ?_ (by with_reducible assumption)))); have kR7 : Blk w7 (w.heap.size + 1) #[.string ⟨#[]⟩, .slice none 0 0] 39 := (by refine Blk.grown ?_ hg7 (fun e9 => by have := (hO2 _ e9).1; omega); exact (by repeat' (first | with_reducible assumption | with_reducible exact Blk.new _ _ _ | with_reducible exact Blk.new' _ _ (by first | (simp only [World.size_alloc, World.size_setCell, World.size_drew]; done) | (simp only [World.size_alloc, World.size_setCell, World.size_drew]; omega) | omega) | with_reducible refine Blk.a ?_ _ | with_reducible refine Blk.d ?_ | with_reducible refine Blk.dN ?_ _ | with_reducible refine Blk.s ?_ (by simp only [ne_eq]; omega) _ | with_reducible refine Blk.b ?_ (by with_reducible assumption)))); have hb7 : Below w.heap.size w w7 := (by refine b_grown' ?_ hg7 ?_ (fun g' hg' => by have := (hO2 _ hg').1; omega); exact (by repeat' (first | with_reducible exact Below.refl _ _ | with_reducible assumption | with_reducible refine b_alloc ?_ _ | with_reducible refine b_drewN ?_ _ | with_reducible refine b_drew ?_ | with_reducible refine b_set ?_ (by first | (simp only [World.size_setCell, World.size_alloc, World.size_drew]; omega) | (simp; done) | (simp; omega)) _ | with_reducible refine b_step ?_ (by with_reducible assumption))); (simp only [World.size_setCell, World.size_alloc]; have := hb.size; omega)); have hS7 : Own boxC 6 48 137 w7 (.slice (some ⟨g, 0, none⟩) xs.length cb) xs := (by refine Own.gS ?_ (GrownS.of hg7) (fun j h1 h2 => hdis j h2 h1); exact (by repeat' (first | with_reducible assumption | with_reducible refine Own.s ?_ _ (fun k hk => by have := hSb k hk; (try simp only); omega) | with_reducible refine Own.a ?_ _ | with_reducible refine Own.d ?_ | with_reducible refine Own.dN ?_ _ | with_reducible refine Own.b ?_ (by with_reducible assumption)))); have hz7 := hg7.size; (simp only [World.size_setCell, World.size_alloc] at hz7 hat7); obtain ⟨eX7, fX7, lX7⟩ := kX7.cells)
      go_roundw
      case rel =>
        refine ⟨k + 1, A7, c7, by omega, by go_num, b_set hb7 (by simp only; omega) _, kR7.s (by simp only [ne_eq]; omega) _, by rw [E]; simpa using kX7.put 1 (.slice A7 (LL.tk xs k ++ [LL.nthB xs k]).length c7), ?_, fun j hj => ?_, hS7.s _ (fun j hj => (hS2 j hj).2), hS2⟩
        · rw [E]
          refine Own.s (v := .slice A7 (LL.tk xs k ++ [LL.nthB xs k]).length c7) hO7 _ (fun j hj => ?_)
          rcases hat7 with h9 | h9
          · rw [h9] at hj; exact (hO2 _ hj).2
          · rw [h9] at hj; cases hj; simp only; omega
        · rw [E] at hj
          rcases hat7 with h9 | h9
          · rw [h9] at hj; exact hO2 _ hj
          · rw [h9] at hj; cases hj; omega
      case measure => simp [intOf]; omega
    · obtain rfl : k = xs.length := by omega
      rw [LL.tk_all] at kX hO hO2
      obtain ⟨ekX, fkX, lkX⟩ := kX.cells
      go_wp2_with fail
      refine calls_name (fun W => Below w.heap.size w W ∧ Blk W (w.heap.size + 1) #[.string ⟨#[]⟩, .slice none 0 0] 39 ∧ RdB W Ao xs.length co xs) ⟨(by repeat' (first | with_reducible exact Below.refl _ _ | with_reducible assumption | with_reducible refine b_alloc ?_ _ | with_reducible refine b_drewN ?_ _ | with_reducible refine b_drew ?_ | with_reducible refine b_set ?_ (by first | (simp only [World.size_setCell, World.size_alloc, World.size_drew]; omega) | (simp; done) | (simp; omega)) _ | with_reducible refine b_step ?_ (by with_reducible assumption))), (by repeat' (first | with_reducible assumption | with_reducible exact Blk.new _ _ _ | with_reducible exact Blk.new' _ _ (by first | (simp only [World.size_alloc, World.size_setCell, World.size_drew]; done) | (simp only [World.size_alloc, World.size_setCell, World.size_drew]; omega) | omega) | with_reducible refine Blk.a ?_ _ | with_reducible refine Blk.d ?_ | with_reducible refine Blk.dN ?_ _ | with_reducible refine Blk.s ?_ (by simp only [ne_eq]; omega) _ | with_reducible refine Blk.b ?_ (by with_reducible assumption))), hO.rd_at' boxE⟩ ?_
      clear ekX fkX lkX
      clear hb kR
      rintro W3 ⟨hb, kR, hR⟩
      have hR3 := kR.cells.2.2
      refine (impl_ProbeCut_c s xs Ao co t hs _ hR).mono ?_
      rintro e W4 ⟨A1, c1, rfl, hO1, hOg, hB⟩
      have hO3 : ∀ k, Value.ownBlock (.slice A1 (LL.cutL s xs t).length c1) = some k → w.heap.size + 1 < k := fun k hk => by have := hOg k hk; omega
      replace hb := b_step hb hB; replace kR := kR.b hB; clear hB
      obtain ⟨ekR, fkR, lkR⟩ := kR.cells
      go_wp2_with fail
      (refine bodyPost_ret (res_c rfl _ [.string (LL.cutN s xs), .slice A1 (LL.cutL s xs t).length c1] rfl _ Try.underlying39 rfl (by kernel_rfl) (by simp only [CellsAt, and_true]; and_intros <;> go_simp)) rfl ?_)
      exact ⟨A1, c1, rfl, (by repeat' (first | with_reducible assumption | with_reducible refine Own.s ?_ _ (fun k hk => by have := hO3 k hk; (try simp only); omega) | with_reducible refine Own.a ?_ _ | with_reducible refine Own.d ?_ | with_reducible refine Own.dN ?_ _ | with_reducible refine Own.b ?_ (by with_reducible assumption))), fun k hk => by have := hO3 k hk; omega, (by repeat' (first | with_reducible exact Below.refl _ _ | with_reducible assumption | with_reducible refine b_alloc ?_ _ | with_reducible refine b_drewN ?_ _ | with_reducible refine b_drew ?_ | with_reducible refine b_set ?_ (by first | (simp only [World.size_setCell, World.size_alloc, World.size_drew]; omega) | (simp; done) | (simp; omega)) _ | with_reducible refine b_step ?_ (by with_reducible assumption)))⟩
set_option maxRecDepth 100000 in
set_option maxHeartbeats 4000000 in
theorem spec_l23Tube_c (s : ByteArray) (p : LL.Path) (A : Option Addr) (c : Nat) (w : World) (h : RdS w A p.steps.length c p.steps) : Calls Try.prog 97 #[.string s, .agg #[.int .i64 p.q, .int .i64 p.s, .slice A p.steps.length c, .int .i64 p.fr, .int .i64 p.by_]] w (MkT 116 w s (LL.tubeM p)) := by
  have hroom := h.room
  have hlx := LL.tubeM_len p
  go_enter Try.func97, Try.ntmps97
  go_wp2_with fail
  refine calls_name (fun W => Below w.heap.size w W ∧ Blk W (w.heap.size + 1) #[.string ⟨#[]⟩, .slice none 0 0] 39 ∧ Blk W (w.heap.size + 1 + 1) #[.string s, .slice none 0 0] 39) ⟨(by repeat' (first | with_reducible exact Below.refl _ _ | with_reducible assumption | with_reducible refine b_alloc ?_ _ | with_reducible refine b_drewN ?_ _ | with_reducible refine b_drew ?_ | with_reducible refine b_set ?_ (by first | (simp only [World.size_setCell, World.size_alloc, World.size_drew]; omega) | (simp; done) | (simp; omega)) _ | with_reducible refine b_step ?_ (by with_reducible assumption))), (by repeat' (first | with_reducible assumption | with_reducible exact Blk.new _ _ _ | with_reducible exact Blk.new' _ _ (by first | (simp only [World.size_alloc, World.size_setCell, World.size_drew]; done) | (simp only [World.size_alloc, World.size_setCell, World.size_drew]; omega) | omega) | with_reducible refine Blk.a ?_ _ | with_reducible refine Blk.d ?_ | with_reducible refine Blk.dN ?_ _ | with_reducible refine Blk.s ?_ (by simp only [ne_eq]; omega) _ | with_reducible refine Blk.b ?_ (by with_reducible assumption))), (by repeat' (first | with_reducible assumption | with_reducible exact Blk.new _ _ _ | with_reducible exact Blk.new' _ _ (by first | (simp only [World.size_alloc, World.size_setCell, World.size_drew]; done) | (simp only [World.size_alloc, World.size_setCell, World.size_drew]; omega) | omega) | with_reducible refine Blk.a ?_ _ | with_reducible refine Blk.d ?_ | with_reducible refine Blk.dN ?_ _ | with_reducible refine Blk.s ?_ (by simp only [ne_eq]; omega) _ | with_reducible refine Blk.b ?_ (by with_reducible assumption)))⟩ ?_
  rintro W1 ⟨hb, kR, kX⟩
  have hX1 := kX.cells.2.2
  refine (spec_FlyTube_c p A c _ (h.mono hb)).mono ?_
  generalize LL.tubeM p = xs at *
  intro e W2 hM
  obtain ⟨Ab, cb, rfl, hS, hSg, hB⟩ := hM.go boxE
  have hgx : w.heap.size + 1 < w.heap.size + 1 + 1 := by omega
  generalize hgg : w.heap.size + 1 + 1 = gx at *
  have Hgg := Lib.hid hgg
  clear hgg
  have hS2 : ∀ b, Value.ownBlock (.slice Ab xs.length cb) = some b → w.heap.size + 1 < b ∧ b ≠ gx := fun b hb => by have := hSg b hb; omega
  replace hb := b_step hb hB; replace kR := kR.b hB; replace kX := kX.b hB; clear hB
  clear hM hSg
  go_wp2_with fail
  go_loopw [7] (fun i wr => ∃ (k : Nat) (Ao : Option Addr) (co : Nat), k ≤ xs.length ∧ i = .int .i64 k ∧ Below w.heap.size w wr ∧ Blk wr (w.heap.size + 1) #[.string ⟨#[]⟩, .slice none 0 0] 39 ∧ Blk wr gx #[.string s, .slice Ao (LL.tk xs k).length co] 39 ∧ Own boxC 6 48 116 wr (.slice Ao (LL.tk xs k).length co) (LL.tk xs k) ∧ (∀ b, Value.ownBlock (.slice Ao (LL.tk xs k).length co) = some b → w.heap.size + 1 < b ∧ b ≠ gx) ∧ Own boxC 6 48 137 wr (.slice Ab xs.length cb) xs ∧ (∀ b, Value.ownBlock (.slice Ab xs.length cb) = some b → w.heap.size + 1 < b ∧ b ≠ gx)) (fun i _ => xs.length - (intOf i).toNat)
  case atStart => exact ⟨0, none, 0, Nat.zero_le _, rfl, hb, kR, kX, ⟨World.ownsRow_nil _ _ _ _, by simp [LL.tk]⟩, (fun b hb => by simp [Value.ownBlock] at hb), hS, hS2⟩
  case round =>
    clear hb kR kX hS hS2
    obtain ⟨k, Ao, co, hk, rfl, hb, kR, kX, hO, hO2, hS, hS2⟩ := hrel
    by_cases hlt : k < xs.length
    · have hOb := fun b hb => (hO.row.lt b hb).2
      have hSb := fun b hb => (hS.row.lt b hb).2
      have hgb := kX.cells.2.2
      have hRb := kR.cells.2.2
      have hlen : (LL.tk xs k).length ≤ k := LL.tk_len _ _
      have hdis := own_kinds hO hS (by decide)
      obtain ⟨g, rfl⟩ := hS.someA (by omega)
      obtain ⟨c0, c1, c2, c3, c4, c5⟩ := (hS.rd_at' boxE).S6 k hlt
      simp only [Nat.zero_add] at c0 c1 c2 c3 c4 c5
      have hgl := (hS.row.lt _ rfl).2
      have hgx := (hS2 _ rfl)
      dsimp only at hgl hgx
      obtain ⟨ekX, fkX, lkX⟩ := kX.cells
      have E := LL.tk_on hlt
      have Hlen := Lib.hid hlen
      clear hlen
      go_wp2_with (at_builtin; go_loud (refine wp_app (xs := LL.tk xs k) (ys := [LL.nthB xs k]) (bytes := 48) (e := 116) rfl _ _ _ rfl boxE (.agg (boxC LL.b0).toArray) Try.underlying37 (by kernel_rfl) rfl (by decide) (v := .slice Ao (LL.tk xs k).length co) rfl (by repeat' (first | with_reducible assumption | with_reducible refine Own.s ?_ _ (fun k hk => by have := hOb k hk; (try simp only); omega) | with_reducible refine Own.a ?_ _ | with_reducible refine Own.d ?_ | with_reducible refine Own.dN ?_ _ | with_reducible refine Own.b ?_ (by with_reducible assumption))) rfl (Rd.one (x := LL.nthB xs k) (Blk.new' _ _ (by simp)) rfl (by decide)) (by have := Hlen.out; omega) ?_); intro v7 w7 hO7 hg7 hat7; obtain ⟨A7, c7, rfl, -⟩ := hO7.rd boxE; have kX7 : Blk w7 gx #[.string s, .slice Ao (LL.tk xs k).length co] 39 := (by refine Blk.grown ?_ hg7 (fun e9 => (hO2 _ e9).2 rfl); exact (by repeat' (first | with_reducible assumption | with_reducible exact Blk.new _ _ _ | with_reducible exact Blk.new' _ _ (by first | (simp only [World.size_alloc, World.size_setCell, World.size_drew]; done) | (simp only [World.size_alloc, World.size_setCell, World.size_drew]; omega) | omega) | with_reducible refine Blk.a ?_ _ | with_reducible refine Blk.d ?_ | with_reducible refine Blk.dN ?_ _ | with_reducible refine Blk.s ?_ (by simp only [ne_eq]; omega) _ | with_reducible refine Blk.b ?_ (by with_reducible assumption)))); have kR7 : Blk w7 (w.heap.size + 1) #[.string ⟨#[]⟩, .slice none 0 0] 39 := (by refine Blk.grown ?_ hg7 (fun e9 => by have := (hO2 _ e9).1; omega); exact (by repeat' (first | with_reducible assumption | with_reducible exact Blk.new _ _ _ | with_reducible exact Blk.new' _ _ (by first | (simp only [World.size_alloc, World.size_setCell, World.size_drew]; done) | (simp only [World.size_alloc, World.size_setCell, World.size_drew]; omega) | omega) | with_reducible refine Blk.a ?_ _ | with_reducible refine Blk.d ?_ | with_reducible refine Blk.dN ?_ _ | with_reducible refine Blk.s ?_ (by simp only [ne_eq]; omega) _ | with_reducible refine Blk.b ?_ (by with_reducible assumption)))); have hb7 : Below w.heap.size w w7 := (by refine b_grown' ?_ hg7 ?_ (fun g' hg' => by have := (hO2 _ hg').1; omega); exact (by repeat' (first | with_reducible exact Below.refl _ _ | with_reducible assumption | with_reducible refine b_alloc ?_ _ | with_reducible refine b_drewN ?_ _ | with_reducible refine b_drew ?_ | with_reducible refine b_set ?_ (by first | (simp only [World.size_setCell, World.size_alloc, World.size_drew]; omega) | (simp; done) | (simp; omega)) _ | with_reducible refine b_step ?_ (by with_reducible assumption))); (simp only [World.size_setCell, World.size_alloc]; have := hb.size; omega)); have hS7 : Own boxC 6 48 137 w7 (.slice (some ⟨g, 0, none⟩) xs.length cb) xs := (by refine Own.gS ?_ (GrownS.of hg7) (fun j h1 h2 => hdis j h2 h1); exact (by repeat' (first | with_reducible assumption | with_reducible refine Own.s ?_ _ (fun k hk => by have := hSb k hk; (try simp only); omega) | with_reducible refine Own.a ?_ _ | with_reducible refine Own.d ?_ | with_reducible refine Own.dN ?_ _ | with_reducible refine Own.b ?_ (by with_reducible assumption)))); have hz7 := hg7.size; (simp only [World.size_setCell, World.size_alloc] at hz7 hat7); obtain ⟨eX7, fX7, lX7⟩ := kX7.cells)
      go_roundw
      case rel =>
        refine ⟨k + 1, A7, c7, by omega, by go_num, b_set hb7 (by simp only; omega) _, kR7.s (by simp only [ne_eq]; omega) _, by rw [E]; simpa using kX7.put 1 (.slice A7 (LL.tk xs k ++ [LL.nthB xs k]).length c7), ?_, fun j hj => ?_, hS7.s _ (fun j hj => (hS2 j hj).2), hS2⟩
        · rw [E]
          refine Own.s (v := .slice A7 (LL.tk xs k ++ [LL.nthB xs k]).length c7) hO7 _ (fun j hj => ?_)
          rcases hat7 with h9 | h9
          · rw [h9] at hj; exact (hO2 _ hj).2
          · rw [h9] at hj; cases hj; simp only; omega
        · rw [E] at hj
          rcases hat7 with h9 | h9
          · rw [h9] at hj; exact hO2 _ hj
          · rw [h9] at hj; cases hj; omega
      case measure => simp [intOf]; omega
    · obtain rfl : k = xs.length := by omega
      rw [LL.tk_all] at kX hO hO2
      obtain ⟨ekX, fkX, lkX⟩ := kX.cells; obtain ⟨ekR, fkR, lkR⟩ := kR.cells
      go_wp2_with fail
      (refine bodyPost_ret (res_c rfl _ [.string s, .slice Ao xs.length co] rfl _ Try.underlying39 rfl (by kernel_rfl) (by simp only [CellsAt, and_true]; and_intros <;> go_simp)) rfl ?_)
      exact ⟨Ao, co, rfl, (hO.s _ (fun k hk => by have := hO2 k hk; simp only; omega)).s _ (fun k hk => by have := hO2 k hk; simp only; omega), fun k hk => by have := hO2 k hk; omega, (by repeat' (first | with_reducible exact Below.refl _ _ | with_reducible assumption | with_reducible refine b_alloc ?_ _ | with_reducible refine b_drewN ?_ _ | with_reducible refine b_drew ?_ | with_reducible refine b_set ?_ (by first | (simp only [World.size_setCell, World.size_alloc, World.size_drew]; omega) | (simp; done) | (simp; omega)) _ | with_reducible refine b_step ?_ (by with_reducible assumption)))⟩
set_option maxRecDepth 100000 in
set_option maxHeartbeats 4000000 in
theorem spec_LinkTube_c (s : ByteArray) (p : LL.Path) (A : Option Addr) (c : Nat) (t : Int) (hs : s.size ≤ 9223372036854775807) (w : World) (h : RdS w A p.steps.length c p.steps) : Calls Try.prog 43 #[.string s, .agg #[.int .i64 p.q, .int .i64 p.s, .slice A p.steps.length c, .int .i64 p.fr, .int .i64 p.by_], .int .i64 t] w (MkT 116 w (LL.cutN s (LL.tubeM p)) (LL.cutL s (LL.tubeM p) t)) := by
  go_enter Try.func43, Try.ntmps43
  go_wp2_with fail
  refine calls_name (fun W => Below w.heap.size w W ∧ Blk W (w.heap.size + 1) #[.string ⟨#[]⟩, .slice none 0 0] 39) ⟨(by repeat' (first | with_reducible exact Below.refl _ _ | with_reducible assumption | with_reducible refine b_alloc ?_ _ | with_reducible refine b_drewN ?_ _ | with_reducible refine b_drew ?_ | with_reducible refine b_set ?_ (by first | (simp only [World.size_setCell, World.size_alloc, World.size_drew]; omega) | (simp; done) | (simp; omega)) _ | with_reducible refine b_step ?_ (by with_reducible assumption))), (by repeat' (first | with_reducible assumption | with_reducible exact Blk.new _ _ _ | with_reducible exact Blk.new' _ _ (by first | (simp only [World.size_alloc, World.size_setCell, World.size_drew]; done) | (simp only [World.size_alloc, World.size_setCell, World.size_drew]; omega) | omega) | with_reducible refine Blk.a ?_ _ | with_reducible refine Blk.d ?_ | with_reducible refine Blk.dN ?_ _ | with_reducible refine Blk.s ?_ (by simp only [ne_eq]; omega) _ | with_reducible refine Blk.b ?_ (by with_reducible assumption)))⟩ ?_
  rintro W1 ⟨hb, kR⟩
  refine (spec_l23Tube_c s p A c _ (h.mono hb)).mono ?_
  generalize LL.tubeM p = xs at *
  rintro e W2 ⟨Ab, cb, rfl, hS, hSg, hB⟩
  replace hb := b_step hb hB; replace kR := kR.b hB; clear hB
  clear hSg
  go_wp2_with fail
  refine calls_name (fun W => Below w.heap.size w W ∧ Blk W (w.heap.size + 1) #[.string ⟨#[]⟩, .slice none 0 0] 39 ∧ RdB W Ab xs.length cb xs) ⟨(by repeat' (first | with_reducible exact Below.refl _ _ | with_reducible assumption | with_reducible refine b_alloc ?_ _ | with_reducible refine b_drewN ?_ _ | with_reducible refine b_drew ?_ | with_reducible refine b_set ?_ (by first | (simp only [World.size_setCell, World.size_alloc, World.size_drew]; omega) | (simp; done) | (simp; omega)) _ | with_reducible refine b_step ?_ (by with_reducible assumption))), (by repeat' (first | with_reducible assumption | with_reducible exact Blk.new _ _ _ | with_reducible exact Blk.new' _ _ (by first | (simp only [World.size_alloc, World.size_setCell, World.size_drew]; done) | (simp only [World.size_alloc, World.size_setCell, World.size_drew]; omega) | omega) | with_reducible refine Blk.a ?_ _ | with_reducible refine Blk.d ?_ | with_reducible refine Blk.dN ?_ _ | with_reducible refine Blk.s ?_ (by simp only [ne_eq]; omega) _ | with_reducible refine Blk.b ?_ (by with_reducible assumption))), hS.rd_at' boxE⟩ ?_
  clear hb kR
  rintro W3 ⟨hb, kR, hR⟩
  have hR3 := kR.cells.2.2
  refine (spec_ProbeCut_c s xs Ab cb t hs _ hR).mono ?_
  rintro e W4 ⟨A1, c1, rfl, hO1, hOg, hB⟩
  have hO3 : ∀ k, Value.ownBlock (.slice A1 (LL.cutL s xs t).length c1) = some k → w.heap.size + 1 < k := fun k hk => by have := hOg k hk; omega
  replace hb := b_step hb hB; replace kR := kR.b hB; clear hB
  obtain ⟨ekR, fkR, lkR⟩ := kR.cells
  go_wp2_with fail
  (refine bodyPost_ret (res_c rfl _ [.string (LL.cutN s xs), .slice A1 (LL.cutL s xs t).length c1] rfl _ Try.underlying39 rfl (by kernel_rfl) (by simp only [CellsAt, and_true]; and_intros <;> go_simp)) rfl ?_)
  exact ⟨A1, c1, rfl, (by repeat' (first | with_reducible assumption | with_reducible refine Own.s ?_ _ (fun k hk => by have := hO3 k hk; (try simp only); omega) | with_reducible refine Own.a ?_ _ | with_reducible refine Own.d ?_ | with_reducible refine Own.dN ?_ _ | with_reducible refine Own.b ?_ (by with_reducible assumption))), fun k hk => by have := hO3 k hk; omega, (by repeat' (first | with_reducible exact Below.refl _ _ | with_reducible assumption | with_reducible refine b_alloc ?_ _ | with_reducible refine b_drewN ?_ _ | with_reducible refine b_drew ?_ | with_reducible refine b_set ?_ (by first | (simp only [World.size_setCell, World.size_alloc, World.size_drew]; omega) | (simp; done) | (simp; omega)) _ | with_reducible refine b_step ?_ (by with_reducible assumption)))⟩
end Go.Proofs.Ytoakjmdjkhhfbaa
