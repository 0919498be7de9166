/- A tube from a tick on: ProbeCut of the program and of the reference. -/
import Derived.Test.YtkpnjnkfbhomgaaP2
import Derived.Test.YtkpnjnkfbhomgaaS6
import Derived.Test.YtkpnjnkfbhomgaaU1
set_option linter.unusedVariables false
set_option linter.unusedSimpArgs false
namespace Go.Proofs.Ytkpnjnkfbhomgaa
open Go.RowKit
attribute [local go_sem] w_lt_add w_le_of w_le_add max2_i min2_i ite_max ite_min
namespace LL
def cutB (fr : Int) (b : Box) : Box := ⟨b.x, b.y, b.lo, b.hi, max b.i fr, b.o⟩
/-- what is left of the first k boxes from a tick on -/
def cutTo (xs : List Box) (fr : Int) (k : Nat) : List Box := ((xs.take k).filter (fun b => decide (fr ≤ b.o))).map (cutB fr)
theorem cutTo_zero (xs : List Box) (fr : Int) : cutTo xs fr 0 = [] := rfl
theorem take_nthB {xs : List Box} {k : Nat} (h : k < xs.length) : xs.take (k + 1) = xs.take k ++ [nthB xs k] := by
  rw [List.take_succ_eq_append_getElem h]; unfold nthB; rw [List.getD_eq_getElem?_getD, List.getElem?_eq_getElem h]; rfl
theorem cutTo_on {xs : List Box} {fr : Int} {k : Nat} (h : k < xs.length) (ho : fr ≤ (nthB xs k).o) : cutTo xs fr (k + 1) = cutTo xs fr k ++ [cutB fr (nthB xs k)] := by
  unfold cutTo; rw [take_nthB h, List.filter_append, List.map_append]; simp [ho]
theorem cutTo_off {xs : List Box} {fr : Int} {k : Nat} (h : k < xs.length) (ho : ¬ fr ≤ (nthB xs k).o) : cutTo xs fr (k + 1) = cutTo xs fr k := by
  unfold cutTo; rw [take_nthB h, List.filter_append, List.map_append]; simp [ho]
theorem cutTo_len (xs : List Box) (fr : Int) (k : Nat) : (cutTo xs fr k).length ≤ k := by
  unfold cutTo; rw [List.length_map]; exact Nat.le_trans (List.length_filter_le _ _) (List.length_take_le _ _)
def cutL (s : ByteArray) (xs : List Box) (fr : Int) : List Box := if TubeOk s xs then cutTo xs fr xs.length else []
def cutN (s : ByteArray) (xs : List Box) : ByteArray := if TubeOk s xs then s else ⟨#[]⟩
theorem cutL_yes {s : ByteArray} {xs : List Box} {fr : Int} (h : TubeOk s xs) : cutL s xs fr = cutTo xs fr xs.length := if_pos h
theorem cutL_no {s : ByteArray} {xs : List Box} {fr : Int} (h : ¬ TubeOk s xs) : cutL s xs fr = [] := if_neg h
theorem cutN_yes {s : ByteArray} {xs : List Box} (h : TubeOk s xs) : cutN s xs = s := if_pos h
theorem cutN_no {s : ByteArray} {xs : List Box} (h : ¬ TubeOk s xs) : cutN s xs = ⟨#[]⟩ := if_neg h
end LL
theorem wpl_name {P : Program} {ops : Array Oper} {Q : Exit → Act → World → Prop} {l : List Oper} {a : Act} {w : World} (R : World → Prop) (h0 : R w) (h : ∀ w, R w → wpList P ops Q l a w) : wpList P ops Q l a w := h w h0
theorem mkT_nil {w w' : World} {e : Nat} {s : ByteArray} {xs : List LL.Box} {fr : Int} (h : ¬ LL.TubeOk s xs) (hb : Below w.heap.size w w') : MkT e w (LL.cutN s xs) (LL.cutL s xs fr) (.returned (.agg #[.string ⟨#[]⟩, .slice none 0 0])) w' := by
  rw [LL.cutN_no h, LL.cutL_no h]
  exact ⟨none, 0, rfl, ⟨World.ownsRow_nil _ _ _ _, by simp⟩, fun k hk => by simp [Value.ownBlock] at hk, hb⟩
set_option maxRecDepth 100000 in
set_option maxHeartbeats 4000000 in
theorem impl_ProbeCut_c (s : ByteArray) (xs : List LL.Box) (A : Option Addr) (c : Nat) (fr : Int) (hs : s.size ≤ 9223372036854775807) (w : World) (h : RdB w A xs.length c xs) : Calls Try.prog 122 #[.agg #[.string s, .slice A xs.length c], .int .i64 fr] w (MkT 133 w (LL.cutN s xs) (LL.cutL s xs fr)) := by
  have hroom := h.room
  go_enter Try.func122, Try.ntmps122
  go_wp2_with fail
  refine calls_name (fun W => Below w.heap.size w W ∧ Blk W w.heap.size #[.string s, .slice A xs.length c] 91 ∧ Blk W (w.heap.size + 1) #[.string ⟨#[]⟩, .slice none 0 0] 91) ⟨(by repeat' (first | with_reducible exact Below.refl _ _ | with_reducible assumption | with_reducible refine b_alloc ?_ _ | with_reducible refine b_drewN ?_ _ | with_reducible refine b_drew ?_ | with_reducible refine b_set ?_ (by first | (simp only [World.size_setCell, World.size_alloc, World.size_drew]; omega) | (simp; done) | (simp; omega)) _ | with_reducible refine b_step ?_ (by with_reducible assumption))), (by repeat' (first | with_reducible assumption | with_reducible exact Blk.new _ _ _ | with_reducible exact Blk.new' _ _ (by first | (simp only [World.size_alloc, World.size_setCell, World.size_drew]; done) | (simp only [World.size_alloc, World.size_setCell, World.size_drew]; omega) | omega) | with_reducible refine Blk.a ?_ _ | with_reducible refine Blk.d ?_ | with_reducible refine Blk.dN ?_ _ | with_reducible refine Blk.s ?_ (by simp only [ne_eq]; omega) _ | with_reducible refine Blk.b ?_ (by with_reducible assumption))), (by repeat' (first | with_reducible assumption | with_reducible exact Blk.new _ _ _ | with_reducible exact Blk.new' _ _ (by first | (simp only [World.size_alloc, World.size_setCell, World.size_drew]; done) | (simp only [World.size_alloc, World.size_setCell, World.size_drew]; omega) | omega) | with_reducible refine Blk.a ?_ _ | with_reducible refine Blk.d ?_ | with_reducible refine Blk.dN ?_ _ | with_reducible refine Blk.s ?_ (by simp only [ne_eq]; omega) _ | with_reducible refine Blk.b ?_ (by with_reducible assumption)))⟩ ?_
  rintro W1 ⟨hb, kP, kR⟩
  refine (impl_ProbeTubeOk_c s xs A c hs _ (h.mono hb)).mono ?_
  rintro e W2 ⟨rfl, hB⟩
  replace hb := b_step hb hB; replace kP := kP.b hB; replace kR := kR.b hB; clear hB
  by_cases hT : LL.TubeOk s xs
  · rw [decide_eq_true hT]
    have hR2 := kR.cells.2.2
    obtain ⟨ekP, fkP, lkP⟩ := kP.cells
    go_wp2_with fail
    refine wp_name (fun W => Below W2.heap.size W2 W ∧ Blk W W2.heap.size #[.string s, .slice none 0 0] 91) ⟨(by repeat' (first | with_reducible exact Below.refl _ _ | with_reducible assumption | with_reducible refine b_alloc ?_ _ | with_reducible refine b_drewN ?_ _ | with_reducible refine b_drew ?_ | with_reducible refine b_set ?_ (by first | (simp only [World.size_setCell, World.size_alloc, World.size_drew]; omega) | (simp; done) | (simp; omega)) _ | with_reducible refine b_step ?_ (by with_reducible assumption))), Blk.new _ _ _⟩ ?_
    rintro W3 ⟨hE, kX⟩
    clear ekP fkP lkP
    replace hb := b_step hb hE; replace kP := kP.b hE; replace kR := kR.b hE; clear hE
    generalize W2.heap.size = gx at *
    go_loopw [18] (fun i wr => ∃ (k : Nat) (Ao : Option Addr) (co : Nat), k ≤ xs.length ∧ i = .int .i64 k ∧ Below w.heap.size w wr ∧ Blk wr (w.heap.size + 1) #[.string ⟨#[]⟩, .slice none 0 0] 91 ∧ Blk wr gx #[.string s, .slice Ao (LL.cutTo xs fr k).length co] 91 ∧ Own boxC 6 48 133 wr (.slice Ao (LL.cutTo xs fr k).length co) (LL.cutTo xs fr k) ∧ (∀ b, Value.ownBlock (.slice Ao (LL.cutTo xs fr k).length co) = some b → w.heap.size + 1 < b ∧ b ≠ gx)) (fun i _ => xs.length - (intOf i).toNat)
    case atStart => exact ⟨0, none, 0, Nat.zero_le _, rfl, hb, kR, kX, ⟨World.ownsRow_nil _ _ _ _, by simp [LL.cutTo_zero]⟩, fun b hb => by simp [Value.ownBlock] at hb⟩
    case round =>
      clear hb kR kX kP
      obtain ⟨k, Ao, co, hk, rfl, hb, kR, kX, hO, hO2⟩ := hrel
      by_cases hlt : k < xs.length
      · obtain ⟨b, off, rfl, hbw⟩ := h.addr (by omega)
        obtain ⟨c0, c1, c2, c3, c4, c5⟩ := h.S6 k hlt
        obtain ⟨gc, gf, gl⟩ := bcell hb
        obtain ⟨ekX, fkX, lkX⟩ := kX.cells
        by_cases ho : fr ≤ (LL.nthB xs k).o
        · have hOb := fun b hb => (hO.row.lt b hb).2
          have hlen := LL.cutTo_len xs fr k
          go_wp2_with (at_builtin; go_loud (refine wp_app (xs := LL.cutTo xs fr k) (ys := [LL.cutB fr (LL.nthB xs k)]) (bytes := 48) (e := 133) rfl _ _ _ rfl boxE (.agg (boxC LL.b0).toArray) Try.underlying89 (by kernel_rfl) rfl (by decide) (v := .slice Ao (LL.cutTo xs fr k).length co) rfl (by repeat' (first | with_reducible assumption | with_reducible refine Own.s ?_ _ (fun k hk => by have := hOb k hk; (try simp only); omega) | with_reducible refine Own.a ?_ _ | with_reducible refine Own.d ?_ | with_reducible refine Own.dN ?_ _ | with_reducible refine Own.b ?_ (by with_reducible assumption))) rfl (Rd.one (x := LL.cutB fr (LL.nthB xs k)) (Blk.new' _ _ (by simp)) rfl (by decide)) (by omega) ?_); intro v7 w7 hO7 hg7 hat7; obtain ⟨A7, c7, rfl, -⟩ := hO7.rd boxE; have kX7 : Blk w7 gx #[.string s, .slice Ao (LL.cutTo xs fr k).length co] 91 := (by refine Blk.grown ?_ hg7 (fun e9 => (hO2 _ e9).2 rfl); exact (by repeat' (first | with_reducible assumption | with_reducible exact Blk.new _ _ _ | with_reducible exact Blk.new' _ _ (by first | (simp only [World.size_alloc, World.size_setCell, World.size_drew]; done) | (simp only [World.size_alloc, World.size_setCell, World.size_drew]; omega) | omega) | with_reducible refine Blk.a ?_ _ | with_reducible refine Blk.d ?_ | with_reducible refine Blk.dN ?_ _ | with_reducible refine Blk.s ?_ (by simp only [ne_eq]; omega) _ | with_reducible refine Blk.b ?_ (by with_reducible assumption)))); have kR7 : Blk w7 (w.heap.size + 1) #[.string ⟨#[]⟩, .slice none 0 0] 91 := (by refine Blk.grown ?_ hg7 (fun e9 => by have := (hO2 _ e9).1; omega); exact (by repeat' (first | with_reducible assumption | with_reducible exact Blk.new _ _ _ | with_reducible exact Blk.new' _ _ (by first | (simp only [World.size_alloc, World.size_setCell, World.size_drew]; done) | (simp only [World.size_alloc, World.size_setCell, World.size_drew]; omega) | omega) | with_reducible refine Blk.a ?_ _ | with_reducible refine Blk.d ?_ | with_reducible refine Blk.dN ?_ _ | with_reducible refine Blk.s ?_ (by simp only [ne_eq]; omega) _ | with_reducible refine Blk.b ?_ (by with_reducible assumption)))); have hb7 : Below w.heap.size w w7 := (by refine b_grown' ?_ hg7 ?_ (fun g' hg' => by have := (hO2 _ hg').1; omega); exact (by repeat' (first | with_reducible exact Below.refl _ _ | with_reducible assumption | with_reducible refine b_alloc ?_ _ | with_reducible refine b_drewN ?_ _ | with_reducible refine b_drew ?_ | with_reducible refine b_set ?_ (by first | (simp only [World.size_setCell, World.size_alloc, World.size_drew]; omega) | (simp; done) | (simp; omega)) _ | with_reducible refine b_step ?_ (by with_reducible assumption))); (simp only [World.size_setCell, World.size_alloc]; have := hb.size; omega)); have hz7 := hg7.size; (simp only [World.size_setCell, World.size_alloc] at hz7 hat7); obtain ⟨eX7, fX7, lX7⟩ := kX7.cells)
          go_roundw
          case rel =>
            have E := LL.cutTo_on hlt ho
            refine ⟨k + 1, A7, c7, by omega, by go_num, b_set hb7 (by simp only; omega) _, kR7.s (by simp only [ne_eq]; omega) _, by rw [E]; simpa using kX7.put 1 (.slice A7 (LL.cutTo xs fr k ++ [LL.cutB fr (LL.nthB xs k)]).length c7), ?_, fun j hj => ?_⟩
            · rw [E]
              refine Own.s (v := .slice A7 (LL.cutTo xs fr k ++ [LL.cutB fr (LL.nthB xs k)]).length c7) hO7 _ (fun j hj => ?_)
              rcases hat7 with h9 | h9
              · rw [h9] at hj; exact (hO2 _ hj).2
              · rw [h9] at hj; cases hj; simp only; omega
            · rw [E] at hj
              rcases hat7 with h9 | h9
              · rw [h9] at hj; exact hO2 _ hj
              · rw [h9] at hj; cases hj; omega
          case measure => simp [intOf]; omega
        · go_wp2_with fail
          go_roundw
          case rel => exact ⟨k + 1, Ao, co, by omega, by go_num, (by repeat' (first | with_reducible exact Below.refl _ _ | with_reducible assumption | with_reducible refine b_alloc ?_ _ | with_reducible refine b_drewN ?_ _ | with_reducible refine b_drew ?_ | with_reducible refine b_set ?_ (by first | (simp only [World.size_setCell, World.size_alloc, World.size_drew]; omega) | (simp; done) | (simp; omega)) _ | with_reducible refine b_step ?_ (by with_reducible assumption))), (by repeat' (first | with_reducible assumption | with_reducible exact Blk.new _ _ _ | with_reducible exact Blk.new' _ _ (by first | (simp only [World.size_alloc, World.size_setCell, World.size_drew]; done) | (simp only [World.size_alloc, World.size_setCell, World.size_drew]; omega) | omega) | with_reducible refine Blk.a ?_ _ | with_reducible refine Blk.d ?_ | with_reducible refine Blk.dN ?_ _ | with_reducible refine Blk.s ?_ (by simp only [ne_eq]; omega) _ | with_reducible refine Blk.b ?_ (by with_reducible assumption))), by rw [LL.cutTo_off hlt ho]; exact (by repeat' (first | with_reducible assumption | with_reducible exact Blk.new _ _ _ | with_reducible exact Blk.new' _ _ (by first | (simp only [World.size_alloc, World.size_setCell, World.size_drew]; done) | (simp only [World.size_alloc, World.size_setCell, World.size_drew]; omega) | omega) | with_reducible refine Blk.a ?_ _ | with_reducible refine Blk.d ?_ | with_reducible refine Blk.dN ?_ _ | with_reducible refine Blk.s ?_ (by simp only [ne_eq]; omega) _ | with_reducible refine Blk.b ?_ (by with_reducible assumption))), by rw [LL.cutTo_off hlt ho]; exact hO.a _, by rw [LL.cutTo_off hlt ho]; exact hO2⟩
          case measure => simp [intOf]; omega
      · obtain rfl : k = xs.length := by omega
        obtain ⟨ekX, fkX, lkX⟩ := kX.cells; obtain ⟨ekR, fkR, lkR⟩ := kR.cells
        go_wp2_with fail
        (refine bodyPost_ret (res_c rfl _ [.string s, .slice Ao (LL.cutTo xs fr xs.length).length co] rfl _ Try.underlying91 rfl (by kernel_rfl) (by simp only [CellsAt, and_true]; and_intros <;> go_simp)) rfl ?_)
        rw [LL.cutN_yes hT, LL.cutL_yes hT]
        exact ⟨Ao, co, rfl, (hO.s _ (fun k hk => by have := hO2 k hk; simp only; omega)).s _ (fun k hk => by have := hO2 k hk; simp only; omega), fun k hk => by have := hO2 k hk; omega, (by repeat' (first | with_reducible exact Below.refl _ _ | with_reducible assumption | with_reducible refine b_alloc ?_ _ | with_reducible refine b_drewN ?_ _ | with_reducible refine b_drew ?_ | with_reducible refine b_set ?_ (by first | (simp only [World.size_setCell, World.size_alloc, World.size_drew]; omega) | (simp; done) | (simp; omega)) _ | with_reducible refine b_step ?_ (by with_reducible assumption)))⟩
  · rw [decide_eq_false hT]
    obtain ⟨ekP, fkP, lkP⟩ := kP.cells; obtain ⟨ekR, fkR, lkR⟩ := kR.cells
    go_wp2_with fail
    (refine bodyPost_ret (res_c rfl _ [.string ⟨#[]⟩, .slice none 0 0] rfl _ Try.underlying91 rfl (by kernel_rfl) (by simp only [CellsAt, and_true]; and_intros <;> go_simp)) rfl ?_)
    exact mkT_nil hT (by repeat' (first | with_reducible exact Below.refl _ _ | with_reducible assumption | with_reducible refine b_alloc ?_ _ | with_reducible refine b_drewN ?_ _ | with_reducible refine b_drew ?_ | with_reducible refine b_set ?_ (by first | (simp only [World.size_setCell, World.size_alloc, World.size_drew]; omega) | (simp; done) | (simp; omega)) _ | with_reducible refine b_step ?_ (by with_reducible assumption)))
set_option maxRecDepth 100000 in
set_option maxHeartbeats 4000000 in
theorem spec_ProbeCut_c (s : ByteArray) (xs : List LL.Box) (A : Option Addr) (c : Nat) (fr : Int) (hs : s.size ≤ 9223372036854775807) (w : World) (h : RdB w A xs.length c xs) : Calls Try.prog 138 #[.agg #[.string s, .slice A xs.length c], .int .i64 fr] w (MkT 133 w (LL.cutN s xs) (LL.cutL s xs fr)) := by
  have hroom := h.room
  go_enter Try.func138, Try.ntmps138
  go_wp2_with fail
  refine calls_name (fun W => Below w.heap.size w W ∧ Blk W w.heap.size #[.string s, .slice A xs.length c] 91 ∧ Blk W (w.heap.size + 1) #[.string ⟨#[]⟩, .slice none 0 0] 91 ∧ Blk W (w.heap.size + 1 + 1) #[.string s, .slice none 0 0] 91) ⟨(by repeat' (first | with_reducible exact Below.refl _ _ | with_reducible assumption | with_reducible refine b_alloc ?_ _ | with_reducible refine b_drewN ?_ _ | with_reducible refine b_drew ?_ | with_reducible refine b_set ?_ (by first | (simp only [World.size_setCell, World.size_alloc, World.size_drew]; omega) | (simp; done) | (simp; omega)) _ | with_reducible refine b_step ?_ (by with_reducible assumption))), (by repeat' (first | with_reducible assumption | with_reducible exact Blk.new _ _ _ | with_reducible exact Blk.new' _ _ (by first | (simp only [World.size_alloc, World.size_setCell, World.size_drew]; done) | (simp only [World.size_alloc, World.size_setCell, World.size_drew]; omega) | omega) | with_reducible refine Blk.a ?_ _ | with_reducible refine Blk.d ?_ | with_reducible refine Blk.dN ?_ _ | with_reducible refine Blk.s ?_ (by simp only [ne_eq]; omega) _ | with_reducible refine Blk.b ?_ (by with_reducible assumption))), (by repeat' (first | with_reducible assumption | with_reducible exact Blk.new _ _ _ | with_reducible exact Blk.new' _ _ (by first | (simp only [World.size_alloc, World.size_setCell, World.size_drew]; done) | (simp only [World.size_alloc, World.size_setCell, World.size_drew]; omega) | omega) | with_reducible refine Blk.a ?_ _ | with_reducible refine Blk.d ?_ | with_reducible refine Blk.dN ?_ _ | with_reducible refine Blk.s ?_ (by simp only [ne_eq]; omega) _ | with_reducible refine Blk.b ?_ (by with_reducible assumption))), (by repeat' (first | with_reducible assumption | with_reducible exact Blk.new _ _ _ | with_reducible exact Blk.new' _ _ (by first | (simp only [World.size_alloc, World.size_setCell, World.size_drew]; done) | (simp only [World.size_alloc, World.size_setCell, World.size_drew]; omega) | omega) | with_reducible refine Blk.a ?_ _ | with_reducible refine Blk.d ?_ | with_reducible refine Blk.dN ?_ _ | with_reducible refine Blk.s ?_ (by simp only [ne_eq]; omega) _ | with_reducible refine Blk.b ?_ (by with_reducible assumption)))⟩ ?_
  rintro W1 ⟨hb, kP, kR, kX⟩
  refine (spec_ProbeTubeOk_c s xs A c hs _ (h.mono hb)).mono ?_
  rintro e W2 ⟨rfl, hB⟩
  replace hb := b_step hb hB; replace kP := kP.b hB; replace kR := kR.b hB; replace kX := kX.b hB; clear hB
  by_cases hT : LL.TubeOk s xs
  · rw [decide_eq_true hT]
    have hgx : w.heap.size + 1 < w.heap.size + 1 + 1 := by omega
    generalize hgg : w.heap.size + 1 + 1 = gx at *
    have Hgg := Lib.hid hgg
    clear hgg
    go_wp2_with fail
    go_loopw [6] (fun i wr => ∃ (k : Nat) (Ao : Option Addr) (co : Nat), k ≤ xs.length ∧ i = .int .i64 k ∧ Below w.heap.size w wr ∧ Blk wr w.heap.size #[.string s, .slice A xs.length c] 91 ∧ Blk wr (w.heap.size + 1) #[.string ⟨#[]⟩, .slice none 0 0] 91 ∧ Blk wr gx #[.string s, .slice Ao (LL.cutTo xs fr k).length co] 91 ∧ Own boxC 6 48 133 wr (.slice Ao (LL.cutTo xs fr k).length co) (LL.cutTo xs fr k) ∧ (∀ b, Value.ownBlock (.slice Ao (LL.cutTo xs fr k).length co) = some b → w.heap.size + 1 < b ∧ b ≠ gx)) (fun i _ => xs.length - (intOf i).toNat)
    case atStart => exact ⟨0, none, 0, Nat.zero_le _, rfl, hb, kP, kR, kX, ⟨World.ownsRow_nil _ _ _ _, by simp [LL.cutTo_zero]⟩, fun b hb => by simp [Value.ownBlock] at hb⟩
    case round =>
      clear hb kR kX kP
      obtain ⟨k, Ao, co, hk, rfl, hb, kP, kR, kX, hO, hO2⟩ := hrel
      obtain ⟨ekP, fkP, lkP⟩ := kP.cells
      by_cases hlt : k < xs.length
      · obtain ⟨b, off, rfl, hbw⟩ := h.addr (by omega)
        obtain ⟨c0, c1, c2, c3, c4, c5⟩ := h.S6 k hlt
        obtain ⟨gc, gf, gl⟩ := bcell hb
        obtain ⟨ekX, fkX, lkX⟩ := kX.cells
        by_cases ho : fr ≤ (LL.nthB xs k).o
        · have hOb := fun b hb => (hO.row.lt b hb).2
          have hlen := LL.cutTo_len xs fr k
          by_cases hi : (LL.nthB xs k).i < fr
          · have hmx : max (LL.nthB xs k).i fr = fr := by omega
            have Hmx := Lib.hid hmx
            clear hmx
            go_wp2_with (at_builtin; go_loud (refine wp_app (xs := LL.cutTo xs fr k) (ys := [LL.cutB fr (LL.nthB xs k)]) (bytes := 48) (e := 133) rfl _ _ _ rfl boxE (.agg (boxC LL.b0).toArray) Try.underlying89 (by kernel_rfl) rfl (by decide) (v := .slice Ao (LL.cutTo xs fr k).length co) rfl (by repeat' (first | with_reducible assumption | with_reducible refine Own.s ?_ _ (fun k hk => by have := hOb k hk; (try simp only); omega) | with_reducible refine Own.a ?_ _ | with_reducible refine Own.d ?_ | with_reducible refine Own.dN ?_ _ | with_reducible refine Own.b ?_ (by with_reducible assumption))) rfl (Rd.one (x := LL.cutB fr (LL.nthB xs k)) (Blk.new' _ _ (by simp)) (by simp only [boxC, LL.cutB, Hmx.out]) (by decide)) (by omega) ?_); intro v7 w7 hO7 hg7 hat7; obtain ⟨A7, c7, rfl, -⟩ := hO7.rd boxE; have kX7 : Blk w7 gx #[.string s, .slice Ao (LL.cutTo xs fr k).length co] 91 := (by refine Blk.grown ?_ hg7 (fun e9 => (hO2 _ e9).2 rfl); exact (by repeat' (first | with_reducible assumption | with_reducible exact Blk.new _ _ _ | with_reducible exact Blk.new' _ _ (by first | (simp only [World.size_alloc, World.size_setCell, World.size_drew]; done) | (simp only [World.size_alloc, World.size_setCell, World.size_drew]; omega) | omega) | with_reducible refine Blk.a ?_ _ | with_reducible refine Blk.d ?_ | with_reducible refine Blk.dN ?_ _ | with_reducible refine Blk.s ?_ (by simp only [ne_eq]; omega) _ | with_reducible refine Blk.b ?_ (by with_reducible assumption)))); have kR7 : Blk w7 (w.heap.size + 1) #[.string ⟨#[]⟩, .slice none 0 0] 91 := (by refine Blk.grown ?_ hg7 (fun e9 => by have := (hO2 _ e9).1; omega); exact (by repeat' (first | with_reducible assumption | with_reducible exact Blk.new _ _ _ | with_reducible exact Blk.new' _ _ (by first | (simp only [World.size_alloc, World.size_setCell, World.size_drew]; done) | (simp only [World.size_alloc, World.size_setCell, World.size_drew]; omega) | omega) | with_reducible refine Blk.a ?_ _ | with_reducible refine Blk.d ?_ | with_reducible refine Blk.dN ?_ _ | with_reducible refine Blk.s ?_ (by simp only [ne_eq]; omega) _ | with_reducible refine Blk.b ?_ (by with_reducible assumption)))); have kP7 : Blk w7 w.heap.size #[.string s, .slice (some ⟨b, off, none⟩) xs.length c] 91 := (by refine Blk.grown ?_ hg7 (fun e9 => by have := (hO2 _ e9).1; omega); exact (by repeat' (first | with_reducible assumption | with_reducible exact Blk.new _ _ _ | with_reducible exact Blk.new' _ _ (by first | (simp only [World.size_alloc, World.size_setCell, World.size_drew]; done) | (simp only [World.size_alloc, World.size_setCell, World.size_drew]; omega) | omega) | with_reducible refine Blk.a ?_ _ | with_reducible refine Blk.d ?_ | with_reducible refine Blk.dN ?_ _ | with_reducible refine Blk.s ?_ (by simp only [ne_eq]; omega) _ | with_reducible refine Blk.b ?_ (by with_reducible assumption)))); have hb7 : Below w.heap.size w w7 := (by refine b_grown' ?_ hg7 ?_ (fun g' hg' => by have := (hO2 _ hg').1; omega); exact (by repeat' (first | with_reducible exact Below.refl _ _ | with_reducible assumption | with_reducible refine b_alloc ?_ _ | with_reducible refine b_drewN ?_ _ | with_reducible refine b_drew ?_ | with_reducible refine b_set ?_ (by first | (simp only [World.size_setCell, World.size_alloc, World.size_drew]; omega) | (simp; done) | (simp; omega)) _ | with_reducible refine b_step ?_ (by with_reducible assumption))); (simp only [World.size_setCell, World.size_alloc]; have := hb.size; omega)); have hz7 := hg7.size; (simp only [World.size_setCell, World.size_alloc] at hz7 hat7); obtain ⟨eX7, fX7, lX7⟩ := kX7.cells)
            go_roundw
            case rel =>
              have E := LL.cutTo_on hlt ho
              refine ⟨k + 1, A7, c7, by omega, by go_num, b_set hb7 (by simp only; omega) _, kP7.s (by simp only [ne_eq]; omega) _, kR7.s (by simp only [ne_eq]; omega) _, by rw [E]; simpa using kX7.put 1 (.slice A7 (LL.cutTo xs fr k ++ [LL.cutB fr (LL.nthB xs k)]).length c7), ?_, fun j hj => ?_⟩
              · rw [E]
                refine Own.s (v := .slice A7 (LL.cutTo xs fr k ++ [LL.cutB fr (LL.nthB xs k)]).length c7) hO7 _ (fun j hj => ?_)
                rcases hat7 with h9 | h9
                · rw [h9] at hj; exact (hO2 _ hj).2
                · rw [h9] at hj; cases hj; simp only; omega
              · rw [E] at hj
                rcases hat7 with h9 | h9
                · rw [h9] at hj; exact hO2 _ hj
                · rw [h9] at hj; cases hj; omega
            case measure => simp [intOf]; omega
          · have hmx : max (LL.nthB xs k).i fr = (LL.nthB xs k).i := by omega
            have Hmx := Lib.hid hmx
            clear hmx
            go_wp2_with (at_builtin; go_loud (refine wp_app (xs := LL.cutTo xs fr k) (ys := [LL.cutB fr (LL.nthB xs k)]) (bytes := 48) (e := 133) rfl _ _ _ rfl boxE (.agg (boxC LL.b0).toArray) Try.underlying89 (by kernel_rfl) rfl (by decide) (v := .slice Ao (LL.cutTo xs fr k).length co) rfl (by repeat' (first | with_reducible assumption | with_reducible refine Own.s ?_ _ (fun k hk => by have := hOb k hk; (try simp only); omega) | with_reducible refine Own.a ?_ _ | with_reducible refine Own.d ?_ | with_reducible refine Own.dN ?_ _ | with_reducible refine Own.b ?_ (by with_reducible assumption))) rfl (Rd.one (x := LL.cutB fr (LL.nthB xs k)) (Blk.new' _ _ (by simp)) (by simp only [boxC, LL.cutB, Hmx.out]) (by decide)) (by omega) ?_); intro v7 w7 hO7 hg7 hat7; obtain ⟨A7, c7, rfl, -⟩ := hO7.rd boxE; have kX7 : Blk w7 gx #[.string s, .slice Ao (LL.cutTo xs fr k).length co] 91 := (by refine Blk.grown ?_ hg7 (fun e9 => (hO2 _ e9).2 rfl); exact (by repeat' (first | with_reducible assumption | with_reducible exact Blk.new _ _ _ | with_reducible exact Blk.new' _ _ (by first | (simp only [World.size_alloc, World.size_setCell, World.size_drew]; done) | (simp only [World.size_alloc, World.size_setCell, World.size_drew]; omega) | omega) | with_reducible refine Blk.a ?_ _ | with_reducible refine Blk.d ?_ | with_reducible refine Blk.dN ?_ _ | with_reducible refine Blk.s ?_ (by simp only [ne_eq]; omega) _ | with_reducible refine Blk.b ?_ (by with_reducible assumption)))); have kR7 : Blk w7 (w.heap.size + 1) #[.string ⟨#[]⟩, .slice none 0 0] 91 := (by refine Blk.grown ?_ hg7 (fun e9 => by have := (hO2 _ e9).1; omega); exact (by repeat' (first | with_reducible assumption | with_reducible exact Blk.new _ _ _ | with_reducible exact Blk.new' _ _ (by first | (simp only [World.size_alloc, World.size_setCell, World.size_drew]; done) | (simp only [World.size_alloc, World.size_setCell, World.size_drew]; omega) | omega) | with_reducible refine Blk.a ?_ _ | with_reducible refine Blk.d ?_ | with_reducible refine Blk.dN ?_ _ | with_reducible refine Blk.s ?_ (by simp only [ne_eq]; omega) _ | with_reducible refine Blk.b ?_ (by with_reducible assumption)))); have kP7 : Blk w7 w.heap.size #[.string s, .slice (some ⟨b, off, none⟩) xs.length c] 91 := (by refine Blk.grown ?_ hg7 (fun e9 => by have := (hO2 _ e9).1; omega); exact (by repeat' (first | with_reducible assumption | with_reducible exact Blk.new _ _ _ | with_reducible exact Blk.new' _ _ (by first | (simp only [World.size_alloc, World.size_setCell, World.size_drew]; done) | (simp only [World.size_alloc, World.size_setCell, World.size_drew]; omega) | omega) | with_reducible refine Blk.a ?_ _ | with_reducible refine Blk.d ?_ | with_reducible refine Blk.dN ?_ _ | with_reducible refine Blk.s ?_ (by simp only [ne_eq]; omega) _ | with_reducible refine Blk.b ?_ (by with_reducible assumption)))); have hb7 : Below w.heap.size w w7 := (by refine b_grown' ?_ hg7 ?_ (fun g' hg' => by have := (hO2 _ hg').1; omega); exact (by repeat' (first | with_reducible exact Below.refl _ _ | with_reducible assumption | with_reducible refine b_alloc ?_ _ | with_reducible refine b_drewN ?_ _ | with_reducible refine b_drew ?_ | with_reducible refine b_set ?_ (by first | (simp only [World.size_setCell, World.size_alloc, World.size_drew]; omega) | (simp; done) | (simp; omega)) _ | with_reducible refine b_step ?_ (by with_reducible assumption))); (simp only [World.size_setCell, World.size_alloc]; have := hb.size; omega)); have hz7 := hg7.size; (simp only [World.size_setCell, World.size_alloc] at hz7 hat7); obtain ⟨eX7, fX7, lX7⟩ := kX7.cells)
            go_roundw
            case rel =>
              have E := LL.cutTo_on hlt ho
              refine ⟨k + 1, A7, c7, by omega, by go_num, b_set hb7 (by simp only; omega) _, kP7.s (by simp only [ne_eq]; omega) _, kR7.s (by simp only [ne_eq]; omega) _, by rw [E]; simpa using kX7.put 1 (.slice A7 (LL.cutTo xs fr k ++ [LL.cutB fr (LL.nthB xs k)]).length c7), ?_, fun j hj => ?_⟩
              · rw [E]
                refine Own.s (v := .slice A7 (LL.cutTo xs fr k ++ [LL.cutB fr (LL.nthB xs k)]).length c7) hO7 _ (fun j hj => ?_)
                rcases hat7 with h9 | h9
                · rw [h9] at hj; exact (hO2 _ hj).2
                · rw [h9] at hj; cases hj; simp only; omega
              · rw [E] at hj
                rcases hat7 with h9 | h9
                · rw [h9] at hj; exact hO2 _ hj
                · rw [h9] at hj; cases hj; omega
            case measure => simp [intOf]; omega
        · go_wp2_with fail
          go_roundw
          case rel => exact ⟨k + 1, Ao, co, by omega, by go_num, (by repeat' (first | with_reducible exact Below.refl _ _ | with_reducible assumption | with_reducible refine b_alloc ?_ _ | with_reducible refine b_drewN ?_ _ | with_reducible refine b_drew ?_ | with_reducible refine b_set ?_ (by first | (simp only [World.size_setCell, World.size_alloc, World.size_drew]; omega) | (simp; done) | (simp; omega)) _ | with_reducible refine b_step ?_ (by with_reducible assumption))), (by repeat' (first | with_reducible assumption | with_reducible exact Blk.new _ _ _ | with_reducible exact Blk.new' _ _ (by first | (simp only [World.size_alloc, World.size_setCell, World.size_drew]; done) | (simp only [World.size_alloc, World.size_setCell, World.size_drew]; omega) | omega) | with_reducible refine Blk.a ?_ _ | with_reducible refine Blk.d ?_ | with_reducible refine Blk.dN ?_ _ | with_reducible refine Blk.s ?_ (by simp only [ne_eq]; omega) _ | with_reducible refine Blk.b ?_ (by with_reducible assumption))), (by repeat' (first | with_reducible assumption | with_reducible exact Blk.new _ _ _ | with_reducible exact Blk.new' _ _ (by first | (simp only [World.size_alloc, World.size_setCell, World.size_drew]; done) | (simp only [World.size_alloc, World.size_setCell, World.size_drew]; omega) | omega) | with_reducible refine Blk.a ?_ _ | with_reducible refine Blk.d ?_ | with_reducible refine Blk.dN ?_ _ | with_reducible refine Blk.s ?_ (by simp only [ne_eq]; omega) _ | with_reducible refine Blk.b ?_ (by with_reducible assumption))), by rw [LL.cutTo_off hlt ho]; exact (by repeat' (first | with_reducible assumption | with_reducible exact Blk.new _ _ _ | with_reducible exact Blk.new' _ _ (by first | (simp only [World.size_alloc, World.size_setCell, World.size_drew]; done) | (simp only [World.size_alloc, World.size_setCell, World.size_drew]; omega) | omega) | with_reducible refine Blk.a ?_ _ | with_reducible refine Blk.d ?_ | with_reducible refine Blk.dN ?_ _ | with_reducible refine Blk.s ?_ (by simp only [ne_eq]; omega) _ | with_reducible refine Blk.b ?_ (by with_reducible assumption))), by rw [LL.cutTo_off hlt ho]; exact hO.a _, by rw [LL.cutTo_off hlt ho]; exact hO2⟩
          case measure => simp [intOf]; omega
      · obtain rfl : k = xs.length := by omega
        obtain ⟨ekX, fkX, lkX⟩ := kX.cells; obtain ⟨ekR, fkR, lkR⟩ := kR.cells
        go_wp2_with fail
        (refine bodyPost_ret (res_c rfl _ [.string s, .slice Ao (LL.cutTo xs fr xs.length).length co] rfl _ Try.underlying91 rfl (by kernel_rfl) (by simp only [CellsAt, and_true]; and_intros <;> go_simp)) rfl ?_)
        rw [LL.cutN_yes hT, LL.cutL_yes hT]
        exact ⟨Ao, co, rfl, (hO.s _ (fun k hk => by have := hO2 k hk; simp only; omega)).s _ (fun k hk => by have := hO2 k hk; simp only; omega), fun k hk => by have := hO2 k hk; omega, (by repeat' (first | with_reducible exact Below.refl _ _ | with_reducible assumption | with_reducible refine b_alloc ?_ _ | with_reducible refine b_drewN ?_ _ | with_reducible refine b_drew ?_ | with_reducible refine b_set ?_ (by first | (simp only [World.size_setCell, World.size_alloc, World.size_drew]; omega) | (simp; done) | (simp; omega)) _ | with_reducible refine b_step ?_ (by with_reducible assumption)))⟩
  · rw [decide_eq_false hT]
    obtain ⟨ekR, fkR, lkR⟩ := kR.cells
    go_wp2_with fail
    (refine bodyPost_ret (res_c rfl _ [.string ⟨#[]⟩, .slice none 0 0] rfl _ Try.underlying91 rfl (by kernel_rfl) (by simp only [CellsAt, and_true]; and_intros <;> go_simp)) rfl ?_)
    exact mkT_nil hT (by repeat' (first | with_reducible exact Below.refl _ _ | with_reducible assumption | with_reducible refine b_alloc ?_ _ | with_reducible refine b_drewN ?_ _ | with_reducible refine b_drew ?_ | with_reducible refine b_set ?_ (by first | (simp only [World.size_setCell, World.size_alloc, World.size_drew]; omega) | (simp; done) | (simp; omega)) _ | with_reducible refine b_step ?_ (by with_reducible assumption)))
end Go.Proofs.Ytkpnjnkfbhomgaa
