/- How a flight that has begun can go on: FlyNext of the program and of the reference. -/
import Derived.Test.YtkpnjnkfbhomgaaC8
set_option linter.unusedVariables false
set_option linter.unusedSimpArgs false
namespace Go.Proofs.Ytkpnjnkfbhomgaa
open Go.RowKit
attribute [local go_sem] w_lt_add w_le_of w_le_add max2_i min2_i ite_max ite_min
namespace LL
theorem nextLo_no {p : Path} {f : List Int} (h : ¬ CanNext p f) : nextLo p f = 0 := if_neg h
theorem nextHi_no {p : Path} {f : List Int} (h : ¬ CanNext p f) : nextHi p f = 0 := if_neg h
theorem nextLo_yes {p : Path} {f : List Int} (h : CanNext p f) : nextLo p f = lo (hdP p f) f.length := if_pos h
theorem nextHi_yes {p : Path} {f : List Int} (h : CanNext p f) : nextHi p f = hi (hdP p f) f.length := if_pos h
/-- the first k ticks lie in their windows -/
def AllIn (p : Path) (f : List Int) (k : Nat) : Prop := ∀ j, j < k → In (nthI f j) (nth p.steps j).fr (nth p.steps j).by_
theorem AllIn.zero (p : Path) (f : List Int) : AllIn p f 0 := fun _ h => absurd h (Nat.not_lt_zero _)
theorem AllIn.succ {p : Path} {f : List Int} {k : Nat} (h : AllIn p f k) (hk : In (nthI f k) (nth p.steps k).fr (nth p.steps k).by_) : AllIn p f (k + 1) := fun j hj => by
  rcases Nat.lt_succ_iff_lt_or_eq.1 hj with h1 | rfl
  · exact h j h1
  · exact hk
theorem hdF_in {p : Path} {f : List Int} {k : Nat} {s : Step} (hs : nth p.steps k = s) (h : In (nthI f k) s.fr s.by_) : hdF p f k = ⟨s.x, s.y, s.lo, s.hi, nthI f k, nthI f k, s.hold⟩ := by
  unfold hdF hdS; rw [hs]
  obtain ⟨h1, h2⟩ := h
  rw [Int.max_eq_right h1, Int.min_eq_right h2]
end LL
set_option maxRecDepth 100000 in
set_option maxHeartbeats 4000000 in
theorem impl_FlyNext_c (p : LL.Path) (f : List Int) (A F : Option Addr) (c m : Nat) (w : World) (h : RdS w A p.steps.length c p.steps) (hF : RdI w F f.length m f) : Calls Try.prog 144 #[.agg #[.int .i64 p.q, .int .i64 p.s, .slice A p.steps.length c, .int .i64 p.fr, .int .i64 p.by_], .slice F f.length m] w fun e w' => e = .returned (.tuple #[.agg #[.int .i64 (LL.nextLo p f), .int .i64 (LL.nextHi p f)], .bool (decide (LL.CanNext p f))]) ∧ Below w.heap.size w w' := by
  have hroom := h.room
  have hroom' := hF.room
  go_enter Try.func144, Try.ntmps144
  go_wp2_with fail
  refine calls_name (fun W => Below w.heap.size w W ∧ Blk W w.heap.size #[.int .i64 p.q, .int .i64 p.s, .slice A p.steps.length c, .int .i64 p.fr, .int .i64 p.by_] 44 ∧ Blk W (w.heap.size + 1) #[.int .i64 0, .int .i64 0] 158) ⟨(by repeat' (first | with_reducible exact Below.refl _ _ | with_reducible assumption | with_reducible refine b_alloc ?_ _ | with_reducible refine b_drewN ?_ _ | with_reducible refine b_drew ?_ | with_reducible refine b_set ?_ (by first | (simp only [World.size_setCell, World.size_alloc, World.size_drew]; omega) | (simp; done) | (simp; omega)) _ | with_reducible refine b_step ?_ (by with_reducible assumption))), (by repeat' (first | with_reducible assumption | with_reducible exact Blk.new _ _ _ | with_reducible exact Blk.new' _ _ (by first | (simp only [World.size_alloc, World.size_setCell, World.size_drew]; done) | (simp only [World.size_alloc, World.size_setCell, World.size_drew]; omega) | omega) | with_reducible refine Blk.a ?_ _ | with_reducible refine Blk.d ?_ | with_reducible refine Blk.dN ?_ _ | with_reducible refine Blk.s ?_ (by simp only [ne_eq]; omega) _ | with_reducible refine Blk.b ?_ (by with_reducible assumption))), (by repeat' (first | with_reducible assumption | with_reducible exact Blk.new _ _ _ | with_reducible exact Blk.new' _ _ (by first | (simp only [World.size_alloc, World.size_setCell, World.size_drew]; done) | (simp only [World.size_alloc, World.size_setCell, World.size_drew]; omega) | omega) | with_reducible refine Blk.a ?_ _ | with_reducible refine Blk.d ?_ | with_reducible refine Blk.dN ?_ _ | with_reducible refine Blk.s ?_ (by simp only [ne_eq]; omega) _ | with_reducible refine Blk.b ?_ (by with_reducible assumption)))⟩ ?_
  rintro W1 ⟨hb, kP, kR⟩
  refine (impl_FlyPathOk_c p A c _ (h.mono hb)).mono ?_
  rintro e W2 ⟨rfl, hB⟩
  replace hb := b_step hb hB; replace kP := kP.b hB; replace kR := kR.b hB; clear hB
  by_cases hP : LL.PathOk p
  · rw [decide_eq_true hP]
    have hl40 := hP.2.1.2
    by_cases hl : f.length ≤ p.steps.length
    · obtain ⟨ekP, fkP, lkP⟩ := kP.cells; obtain ⟨ekR, fkR, lkR⟩ := kR.cells
      go_wp2_with fail
      refine calls_name (fun W => Below W2.heap.size W2 W) (by repeat' (first | with_reducible exact Below.refl _ _ | with_reducible assumption | with_reducible refine b_alloc ?_ _ | with_reducible refine b_drewN ?_ _ | with_reducible refine b_drew ?_ | with_reducible refine b_set ?_ (by first | (simp only [World.size_setCell, World.size_alloc, World.size_drew]; omega) | (simp; done) | (simp; omega)) _ | with_reducible refine b_step ?_ (by with_reducible assumption))) ?_; intro W3 hE; clear ekP fkP lkP ekR fkR lkR; replace hb := b_step hb hE; replace kP := kP.b hE; replace kR := kR.b hE; clear hE
      refine (impl_copyPath_c p A c _ (h.mono hb)).mono ?_
      intro e W4 hM
      obtain ⟨A2, c2, rfl, hO, hOg, hB⟩ := hM.gop
      have hO2 : ∀ k, Value.ownBlock (.slice A2 p.steps.length c2) = some k → w.heap.size + 1 < k := fun k hk => by have := hOg k hk; have := kR.cells.2.2; omega
      replace hb := b_step hb hB; replace kP := kP.b hB; replace kR := kR.b hB; clear hB
      clear hM hOg
      obtain ⟨ekP, fkP, lkP⟩ := kP.cells
      go_wp2_with fail
      refine wp_name (fun W => Below w.heap.size w W ∧ Blk W w.heap.size #[.int .i64 p.q, .int .i64 p.s, .slice A2 p.steps.length c2, .int .i64 p.fr, .int .i64 p.by_] 44 ∧ Blk W (w.heap.size + 1) #[.int .i64 0, .int .i64 0] 158 ∧ Own stepC 7 56 146 W (.slice A2 p.steps.length c2) (LL.tab p.steps.length (LL.mix (LL.hdF p f) p.steps LL.z0 0))) ⟨(by repeat' (first | with_reducible exact Below.refl _ _ | with_reducible assumption | with_reducible refine b_alloc ?_ _ | with_reducible refine b_drewN ?_ _ | with_reducible refine b_drew ?_ | with_reducible refine b_set ?_ (by first | (simp only [World.size_setCell, World.size_alloc, World.size_drew]; omega) | (simp; done) | (simp; omega)) _ | with_reducible refine b_step ?_ (by with_reducible assumption))), by simpa using ((((kP.put 0 (.int .i64 p.q)).put 1 (.int .i64 p.s)).put 2 (.slice A2 p.steps.length c2)).put 3 (.int .i64 p.fr)).put 4 (.int .i64 p.by_), ((((kR.s (by simp only [ne_eq]; omega) _).s (by simp only [ne_eq]; omega) _).s (by simp only [ne_eq]; omega) _).s (by simp only [ne_eq]; omega) _).s (by simp only [ne_eq]; omega) _, by rw [LL.mix_zero]; exact (by repeat' (first | with_reducible assumption | with_reducible refine Own.s ?_ _ (fun k hk => by have := hO2 k hk; (try simp only); omega) | with_reducible refine Own.a ?_ _ | with_reducible refine Own.d ?_ | with_reducible refine Own.dN ?_ _ | with_reducible refine Own.b ?_ (by with_reducible assumption)))⟩ ?_
      clear ekP fkP lkP
      clear hb kP kR hO
      rintro W5 ⟨hb, kP, kR, hO⟩
      go_loopw [27] (fun i wr => ∃ k : Nat, k ≤ f.length ∧ i = .int .i64 k ∧ LL.AllIn p f k ∧ Below w.heap.size w wr ∧ Blk wr w.heap.size #[.int .i64 p.q, .int .i64 p.s, .slice A2 p.steps.length c2, .int .i64 p.fr, .int .i64 p.by_] 44 ∧ Blk wr (w.heap.size + 1) #[.int .i64 0, .int .i64 0] 158 ∧ Own stepC 7 56 146 wr (.slice A2 p.steps.length c2) (LL.tab p.steps.length (LL.mix (LL.hdF p f) p.steps LL.z0 k))) (fun i _ => f.length - (intOf i).toNat)
      case atStart => exact ⟨0, Nat.zero_le _, rfl, LL.AllIn.zero _ _, hb, kP, kR, hO⟩
      case round =>
        clear hb kP kR hO
        obtain ⟨k, hk, rfl, hA, hb, kP, kR, hO⟩ := hrel
        by_cases hlt : k < f.length
        · have hkn : k < p.steps.length := by omega
          obtain ⟨b2, off2, rfl, hbw2⟩ := hF.addr (by omega)
          have c0 := hF.S1 k hlt
          obtain ⟨gc, gf, gl⟩ := bcell hb
          obtain ⟨g, rfl⟩ := hO.someA (by rw [LL.tab_len]; omega)
          have hgl := hO2 g rfl
          have hSt := hO.St k hkn
          rw [LL.mix_here] at hSt
          obtain ⟨c4, c5, f0, gl2⟩ := hSt
          by_cases hI : LL.In (LL.nthI f k) (LL.nth p.steps k).fr (LL.nth p.steps k).by_
          · unfold LL.nth at hI
            generalize hs : p.steps.getD k LL.z0 = s at c4 c5 hI
            have hin := LL.hdF_in (p := p) hs hI
            have Hin := Lib.hid hin
            have Hs := Lib.hid hs
            clear hs hin
            obtain ⟨ekP, fkP, lkP⟩ := kP.cells
            go_wp2_with fail
            ((refine calm_b (by kernel_rfl) (by kernel_rfl) ?_); (repeat (first | ((apply sure_cons (hg := rfl)); (focus ((intro w' hS'); (obtain ⟨hcS, hfS, hlS⟩ := bcell hS'); (try simp only [World.size_setCell, World.size_alloc, World.size_drew] at hS' hcS hfS hlS); (go_simp); (try go_bits); (try ((first | rw [if_pos (by omega)] | rw [if_neg (by omega)]); go_simp)); (first | (with_reducible rfl) | (with_reducible exact rfl) | (with_reducible exact ⟨rfl, hS'⟩) | (go_at_call 60; go_loud (refine (impl_in_c _ _ _ _).mono ?_); rintro e w'' ⟨rfl, hb⟩; (first | (subst hb; exact ⟨rfl, hS'⟩) | exact ⟨rfl, b_to hS' hb (by first | exact Nat.le_refl _ | (have h1 := hS'.size; (try simp only [World.size_setCell, World.size_alloc, World.size_drew] at h1); omega))⟩))))); (simp only [Act.put, List.setIfInBounds_toArray, List.set_cons_zero, List.set_cons_succ])) | ((apply sure_off (hg := rfl)); (simp only [Act.put, List.setIfInBounds_toArray, List.set_cons_zero, List.set_cons_succ])))); (refine sure_nil ?_))
            intro W6 hS6
            clear ekP fkP lkP
            clear c4 c5 f0 gl2 gc gf gl
            replace hb := b_step hb hS6; replace kP := kP.b hS6; replace kR := kR.b hS6; replace hO := hO.b hS6; clear hS6
            have hSt := hO.St k hkn
            rw [LL.mix_here, Hs.out] at hSt
            obtain ⟨c4, c5, f0, gl2⟩ := hSt
            go_wp2_with fail
            go_roundw
            case rel =>
              have hs := Hs.out
              refine ⟨k + 1, by omega, by go_num, hA.succ (by unfold LL.nth; rw [hs]; exact hI), b_set (b_set hb (by simp only; omega) _) (by simp only; omega) _, (kP.s (by simp only [ne_eq]; omega) _).s (by simp only [ne_eq]; omega) _, (kR.s (by simp only [ne_eq]; omega) _).s (by simp only [ne_eq]; omega) _, ?_⟩
              have H1 := hO.updSt k hkn 4 (x := .int .i64 (LL.nthI f k)) (s := ⟨s.x, s.y, s.lo, s.hi, LL.nthI f k, s.by_, s.hold⟩) (by omega) (by rw [LL.mix_here, hs]; rfl) rfl
              exact H1.updSt k hkn 5 (x := .int .i64 (LL.nthI f k)) (s := LL.hdF p f k) (by omega) (by rw [LL.upd_same, Hin.out]; rfl) (by rw [LL.upd_upd, LL.mix_next])
            case measure => simp [intOf]; omega
          · have hS : ¬ LL.CanNext p f := fun h9 => LL.hdP_out hl hlt hI h9.2.2
            unfold LL.nth at hI
            generalize hs : p.steps.getD k LL.z0 = s at c4 c5 hI
            clear hs
            obtain ⟨ekP, fkP, lkP⟩ := kP.cells
            go_wp2_with fail
            ((refine calm_b (by kernel_rfl) (by kernel_rfl) ?_); (repeat (first | ((apply sure_cons (hg := rfl)); (focus ((intro w' hS'); (obtain ⟨hcS, hfS, hlS⟩ := bcell hS'); (try simp only [World.size_setCell, World.size_alloc, World.size_drew] at hS' hcS hfS hlS); (go_simp); (try go_bits); (try ((first | rw [if_pos (by omega)] | rw [if_neg (by omega)]); go_simp)); (first | (with_reducible rfl) | (with_reducible exact rfl) | (with_reducible exact ⟨rfl, hS'⟩) | (go_at_call 60; go_loud (refine (impl_in_c _ _ _ _).mono ?_); rintro e w'' ⟨rfl, hb⟩; (first | (subst hb; exact ⟨rfl, hS'⟩) | exact ⟨rfl, b_to hS' hb (by first | exact Nat.le_refl _ | (have h1 := hS'.size; (try simp only [World.size_setCell, World.size_alloc, World.size_drew] at h1); omega))⟩))))); (simp only [Act.put, List.setIfInBounds_toArray, List.set_cons_zero, List.set_cons_succ])) | ((apply sure_off (hg := rfl)); (simp only [Act.put, List.setIfInBounds_toArray, List.set_cons_zero, List.set_cons_succ])))); (refine sure_nil ?_))
            intro W6 hS6
            clear ekP fkP lkP
            clear c4 c5 f0 gl2 gc gf gl
            replace hb := b_step hb hS6; replace kP := kP.b hS6; replace kR := kR.b hS6; replace hO := hO.b hS6; clear hS6
            obtain ⟨ekR, fkR, lkR⟩ := kR.cells
            go_wp2_with fail
            (refine bodyPost_ret (res_ct rfl _ [.int .i64 0, .int .i64 0] rfl _ rfl _ Try.underlying158 rfl (by kernel_rfl) (by simp only [CellsAt, and_true]; and_intros <;> go_simp)) rfl ?_)
            rw [LL.nextLo_no hS, LL.nextHi_no hS, decide_eq_false hS]
            exact ⟨rfl, (by repeat' (first | with_reducible exact Below.refl _ _ | with_reducible assumption | with_reducible refine b_alloc ?_ _ | with_reducible refine b_drewN ?_ _ | with_reducible refine b_drew ?_ | with_reducible refine b_set ?_ (by first | (simp only [World.size_setCell, World.size_alloc, World.size_drew]; omega) | (simp; done) | (simp; omega)) _ | with_reducible refine b_step ?_ (by with_reducible assumption)))⟩
        · obtain rfl : k = f.length := by omega
          obtain ⟨ekP, fkP, lkP⟩ := kP.cells
          go_wp2_with fail
          refine calls_name (fun W => Below wr.heap.size wr W) (by repeat' (first | with_reducible exact Below.refl _ _ | with_reducible assumption | with_reducible refine b_alloc ?_ _ | with_reducible refine b_drewN ?_ _ | with_reducible refine b_drew ?_ | with_reducible refine b_set ?_ (by first | (simp only [World.size_setCell, World.size_alloc, World.size_drew]; omega) | (simp; done) | (simp; omega)) _ | with_reducible refine b_step ?_ (by with_reducible assumption))) ?_; intro W6 hE; clear ekP fkP lkP; replace hb := b_step hb hE; replace kP := kP.b hE; replace kR := kR.b hE; replace hO := hO.b hE; clear hE
          have HC := impl_FlySpans_c (LL.hdP p f) A2 c2 W6
          rw [LL.hdP_len] at HC
          have e3 : (LL.hdP p f).fr = p.fr := LL.hdFr_lt hl
          have e4 : (LL.hdP p f).by_ = p.by_ := LL.hdBy_lt hl
          rw [e3, e4] at HC
          clear e3 e4
          refine (HC (hO.rd_at' stepE)).mono ?_
          clear HC
          intro e W7 hM
          by_cases hS0 : LL.SpansOk (LL.hdP p f)
          · have hC : LL.CanNext p f := ⟨hP, hl, hS0⟩
            have hFl : LL.Flies (LL.hdP p f) := ⟨LL.hdP_ok hP hl hS0, hS0⟩
            rw [LL.spansM_yes hFl, decide_eq_true hFl] at hM
            obtain ⟨As, cs, rfl, hSp, -, hB⟩ := hM.go2 spanE
            replace hb := b_step hb hB; replace kP := kP.b hB; replace kR := kR.b hB; clear hB
            clear hM
            obtain ⟨gs, rfl⟩ := hSp.someA (by simp [LL.spans, LL.tab_len])
            have hlen : (LL.spans (LL.hdP p f)).length = p.steps.length + 1 := (LL.tab_len _ _).trans (by rw [LL.hdP_len])
            have hlt2 : f.length < (LL.spans (LL.hdP p f)).length := by omega
            have Hlen := Lib.hid hlen
            clear hlen
            have h2 := (hSp.rd_at' spanE).S2 f.length hlt2
            rw [LL.spans_at _ f.length (by rw [LL.hdP_len]; exact hl), ← LL.nextLo_yes hC, ← LL.nextHi_yes hC] at h2
            simp only [Nat.zero_add] at h2
            obtain ⟨e0, e1⟩ := h2
            have hgs := (hSp.row.lt _ rfl).2
            dsimp only at hgs
            obtain ⟨ekR, fkR, lkR⟩ := kR.cells
            go_wp2_with fail
            (refine bodyPost_ret (res_ct rfl _ [.int .i64 (LL.nextLo p f), .int .i64 (LL.nextHi p f)] rfl _ rfl _ Try.underlying158 rfl (by kernel_rfl) (by simp only [CellsAt, and_true]; and_intros <;> go_simp)) rfl ?_)
            rw [decide_eq_true hC]
            exact ⟨rfl, (by repeat' (first | with_reducible exact Below.refl _ _ | with_reducible assumption | with_reducible refine b_alloc ?_ _ | with_reducible refine b_drewN ?_ _ | with_reducible refine b_drew ?_ | with_reducible refine b_set ?_ (by first | (simp only [World.size_setCell, World.size_alloc, World.size_drew]; omega) | (simp; done) | (simp; omega)) _ | with_reducible refine b_step ?_ (by with_reducible assumption)))⟩
          · have hS : ¬ LL.CanNext p f := fun h9 => hS0 h9.2.2
            have hFl : ¬ LL.Flies (LL.hdP p f) := fun h9 => hS0 h9.2
            rw [LL.spansM_no hFl, decide_eq_false hFl] at hM
            obtain ⟨As, cs, rfl, hSp, -, hB⟩ := hM.go2 spanE
            replace hb := b_step hb hB; replace kP := kP.b hB; replace kR := kR.b hB; clear hB
            clear hM
            obtain ⟨ekR, fkR, lkR⟩ := kR.cells
            go_wp2_with fail
            (refine bodyPost_ret (res_ct rfl _ [.int .i64 0, .int .i64 0] rfl _ rfl _ Try.underlying158 rfl (by kernel_rfl) (by simp only [CellsAt, and_true]; and_intros <;> go_simp)) rfl ?_)
            rw [LL.nextLo_no hS, LL.nextHi_no hS, decide_eq_false hS]
            exact ⟨rfl, (by repeat' (first | with_reducible exact Below.refl _ _ | with_reducible assumption | with_reducible refine b_alloc ?_ _ | with_reducible refine b_drewN ?_ _ | with_reducible refine b_drew ?_ | with_reducible refine b_set ?_ (by first | (simp only [World.size_setCell, World.size_alloc, World.size_drew]; omega) | (simp; done) | (simp; omega)) _ | with_reducible refine b_step ?_ (by with_reducible assumption)))⟩
    · have hS : ¬ LL.CanNext p f := fun h9 => hl h9.2.1
      obtain ⟨ekP, fkP, lkP⟩ := kP.cells; obtain ⟨ekR, fkR, lkR⟩ := kR.cells
      go_wp2_with fail
      (refine bodyPost_ret (res_ct rfl _ [.int .i64 0, .int .i64 0] rfl _ rfl _ Try.underlying158 rfl (by kernel_rfl) (by simp only [CellsAt, and_true]; and_intros <;> go_simp)) rfl ?_)
      rw [LL.nextLo_no hS, LL.nextHi_no hS, decide_eq_false hS]
      exact ⟨rfl, (by repeat' (first | with_reducible exact Below.refl _ _ | with_reducible assumption | with_reducible refine b_alloc ?_ _ | with_reducible refine b_drewN ?_ _ | with_reducible refine b_drew ?_ | with_reducible refine b_set ?_ (by first | (simp only [World.size_setCell, World.size_alloc, World.size_drew]; omega) | (simp; done) | (simp; omega)) _ | with_reducible refine b_step ?_ (by with_reducible assumption)))⟩
  · have hS : ¬ LL.CanNext p f := fun h9 => hP h9.1
    rw [decide_eq_false hP]
    obtain ⟨ekP, fkP, lkP⟩ := kP.cells; obtain ⟨ekR, fkR, lkR⟩ := kR.cells
    go_wp2_with fail
    (refine bodyPost_ret (res_ct rfl _ [.int .i64 0, .int .i64 0] rfl _ rfl _ Try.underlying158 rfl (by kernel_rfl) (by simp only [CellsAt, and_true]; and_intros <;> go_simp)) rfl ?_)
    rw [LL.nextLo_no hS, LL.nextHi_no hS, decide_eq_false hS]
    exact ⟨rfl, (by repeat' (first | with_reducible exact Below.refl _ _ | with_reducible assumption | with_reducible refine b_alloc ?_ _ | with_reducible refine b_drewN ?_ _ | with_reducible refine b_drew ?_ | with_reducible refine b_set ?_ (by first | (simp only [World.size_setCell, World.size_alloc, World.size_drew]; omega) | (simp; done) | (simp; omega)) _ | with_reducible refine b_step ?_ (by with_reducible assumption)))⟩
end Go.Proofs.Ytkpnjnkfbhomgaa
