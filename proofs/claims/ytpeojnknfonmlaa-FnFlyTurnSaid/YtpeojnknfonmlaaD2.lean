/- Turning: FlyTurnBy of the program and of the reference. -/
import Derived.Test.YtpeojnknfonmlaaD1
import Derived.Test.YtpeojnknfonmlaaJ6
set_option linter.unusedVariables false
set_option linter.unusedSimpArgs false
namespace Go.Proofs.Ytpeojnknfonmlaa
open Go.RowKit
attribute [local go_sem] w_lt_add w_le_of w_le_add max2_i min2_i
namespace LL
/-- all who can be anywhere now can turn: from place k on, n places; s: somebody was found -/
def allF (p q : Path) (ts : List Box) (now : Int) : Nat → Nat → Bool → Bool
  | 0, _, s => s
  | m + 1, k, s => if In now (nthB ts k).i (nthB ts k).o then (if MayTurn p q k now then allF p q ts now m (k + 1) true else false) else allF p q ts now m (k + 1) s
def allTo (p q : Path) (ts : List Box) (now : Int) (k : Nat) (s : Bool) : Bool := allF p q ts now (ts.length - k) k s
section
variable {p q : Path} {ts : List Box} {now : Int} {k : Nat} {s : Bool}
theorem allTo_end (h : ts.length ≤ k) : allTo p q ts now k s = s := by unfold allTo; rw [show ts.length - k = 0 by omega]; rfl
theorem allTo_un (h : k < ts.length) : allTo p q ts now k s = if In now (nthB ts k).i (nthB ts k).o then (if MayTurn p q k now then allTo p q ts now (k + 1) true else false) else allTo p q ts now (k + 1) s := by
  unfold allTo; rw [show ts.length - k = (ts.length - (k + 1)) + 1 by omega]; rfl
theorem allTo_skip (h : k < ts.length) (h1 : ¬ In now (nthB ts k).i (nthB ts k).o) : allTo p q ts now k s = allTo p q ts now (k + 1) s := by rw [allTo_un h, if_neg h1]
theorem allTo_hit (h : k < ts.length) (h1 : In now (nthB ts k).i (nthB ts k).o) (h2 : MayTurn p q k now) : allTo p q ts now k s = allTo p q ts now (k + 1) true := by rw [allTo_un h, if_pos h1, if_pos h2]
theorem allTo_bad (h : k < ts.length) (h1 : In now (nthB ts k).i (nthB ts k).o) (h2 : ¬ MayTurn p q k now) : allTo p q ts now k s = false := by rw [allTo_un h, if_pos h1, if_neg h2]
end
/-- the first tick from t on, m of them, at which not all can turn -/
def stopF (p q : Path) (ts : List Box) : Nat → Int → Int
  | 0, t => t
  | m + 1, t => if allTo p q ts t 0 false then stopF p q ts m (t + 1) else t
def stopTo (p q : Path) (ts : List Box) (t : Int) : Int := stopF p q ts (10001 - t).toNat t
section
variable {p q : Path} {ts : List Box} {t : Int}
theorem stopTo_end (h : 10000 < t) : stopTo p q ts t = t := by unfold stopTo; rw [show (10001 - t).toNat = 0 by omega]; rfl
theorem stopTo_go (h : t ≤ 10000) (h1 : allTo p q ts t 0 false = true) : stopTo p q ts t = stopTo p q ts (t + 1) := by
  unfold stopTo; rw [show (10001 - t).toNat = (10001 - (t + 1)).toNat + 1 by omega, stopF, if_pos h1]
theorem stopTo_no (h : t ≤ 10000) (h1 : allTo p q ts t 0 false = false) : stopTo p q ts t = t := by
  unfold stopTo; rw [show (10001 - t).toNat = (10001 - (t + 1)).toNat + 1 by omega, stopF, if_neg (by simp [h1])]
end
def turnBy (p q : Path) (fr : Int) : Int := if In fr 0 10000 ∧ PathOk q then (if stopTo p q (tubeM p) fr = fr then -1 else stopTo p q (tubeM p) fr - 1) else -1
theorem turnBy_no {p q : Path} {fr : Int} (h : ¬ (In fr 0 10000 ∧ PathOk q)) : turnBy p q fr = -1 := if_neg h
theorem turnBy_none {p q : Path} {fr : Int} (h : In fr 0 10000 ∧ PathOk q) (h1 : stopTo p q (tubeM p) fr = fr) : turnBy p q fr = -1 := by unfold turnBy; rw [if_pos h, if_pos h1]
theorem turnBy_some {p q : Path} {fr t : Int} (h : In fr 0 10000 ∧ PathOk q) (h1 : stopTo p q (tubeM p) fr = t) (h2 : t ≠ fr) : turnBy p q fr = t - 1 := by unfold turnBy; rw [if_pos h, h1, if_neg h2]
theorem tube_len (p : Path) : (tubeM p).length ≤ p.steps.length := by
  unfold tubeM; split
  · rw [tab_len]; exact Nat.le_refl _
  · exact Nat.zero_le _
end LL
theorem bt {b : Bool} (h : b = true) : decide (b = true) = true := decide_eq_true h
set_option maxRecDepth 100000 in
set_option maxHeartbeats 4000000 in
theorem spec_l8All_c (p q : LL.Path) (A B C : Option Addr) (c d m : Nat) (ts : List LL.Box) (now : Int) (w : World) (h : RdS w A p.steps.length c p.steps) (h' : RdS w B q.steps.length d q.steps) (ht : RdB w C ts.length m ts) : Calls Try.prog 97 #[.agg #[.int .i64 p.q, .int .i64 p.s, .slice A p.steps.length c, .int .i64 p.fr, .int .i64 p.by_], .agg #[.int .i64 q.q, .int .i64 q.s, .slice B q.steps.length d, .int .i64 q.fr, .int .i64 q.by_], .slice C ts.length m, .int .i64 now] w fun e w' => e = .returned (.bool (LL.allTo p q ts now 0 false)) ∧ Below w.heap.size w w' := by
  have hroom := ht.room
  go_enter Try.func97, Try.ntmps97
  go_wp2_with fail
  refine wp_name (fun W => Below w.heap.size w W ∧ Blk W w.heap.size #[.int .i64 p.q, .int .i64 p.s, .slice A p.steps.length c, .int .i64 p.fr, .int .i64 p.by_] 43 ∧ Blk W (w.heap.size + 1) #[.int .i64 q.q, .int .i64 q.s, .slice B q.steps.length d, .int .i64 q.fr, .int .i64 q.by_] 43) ⟨(by repeat' (first | with_reducible exact Below.refl _ _ | with_reducible assumption | with_reducible refine b_alloc ?_ _ | with_reducible refine b_drewN ?_ _ | with_reducible refine b_drew ?_ | with_reducible refine b_set ?_ (by first | (simp only [World.size_setCell, World.size_alloc, World.size_drew]; omega) | (simp; done) | (simp; omega)) _ | with_reducible refine b_step ?_ (by with_reducible assumption))), (by repeat' (first | with_reducible assumption | with_reducible exact Blk.new _ _ _ | with_reducible exact Blk.new' _ _ (by first | (simp only [World.size_alloc, World.size_setCell, World.size_drew]; done) | (simp only [World.size_alloc, World.size_setCell, World.size_drew]; omega) | omega) | with_reducible refine Blk.a ?_ _ | with_reducible refine Blk.d ?_ | with_reducible refine Blk.dN ?_ _ | with_reducible refine Blk.s ?_ (by simp only [ne_eq]; omega) _ | with_reducible refine Blk.b ?_ (by with_reducible assumption))), (by repeat' (first | with_reducible assumption | with_reducible exact Blk.new _ _ _ | with_reducible exact Blk.new' _ _ (by first | (simp only [World.size_alloc, World.size_setCell, World.size_drew]; done) | (simp only [World.size_alloc, World.size_setCell, World.size_drew]; omega) | omega) | with_reducible refine Blk.a ?_ _ | with_reducible refine Blk.d ?_ | with_reducible refine Blk.dN ?_ _ | with_reducible refine Blk.s ?_ (by simp only [ne_eq]; omega) _ | with_reducible refine Blk.b ?_ (by with_reducible assumption)))⟩ ?_
  rintro W1 ⟨hb, kP, kQ⟩
  go_loopw [9, 10] (fun s i wr => ∃ (k : Nat) (b : Bool), k ≤ ts.length ∧ i = .int .i64 k ∧ s = .bool b ∧ LL.Same (LL.allTo p q ts now 0 false) (LL.allTo p q ts now k b) ∧ Below w.heap.size w wr ∧ Blk wr w.heap.size #[.int .i64 p.q, .int .i64 p.s, .slice A p.steps.length c, .int .i64 p.fr, .int .i64 p.by_] 43 ∧ Blk wr (w.heap.size + 1) #[.int .i64 q.q, .int .i64 q.s, .slice B q.steps.length d, .int .i64 q.fr, .int .i64 q.by_] 43) (fun _ i _ => ts.length - (intOf i).toNat)
  case atStart => exact ⟨0, false, Nat.zero_le _, rfl, rfl, (rfl : _ = _), hb, kP, kQ⟩
  case round =>
    clear hb kP kQ
    obtain ⟨k, b, hk, rfl, rfl, hs, hb, kP, kQ⟩ := hrel
    by_cases hlt : k < ts.length
    · obtain ⟨g, off, rfl, hgw⟩ := ht.addr (by omega)
      obtain ⟨c0, c1, c2, c3, c4, c5⟩ := ht.S6 k hlt
      obtain ⟨gc, gf, gl⟩ := bcell hb
      obtain ⟨ekP, fkP, lkP⟩ := kP.cells; obtain ⟨ekQ, fkQ, lkQ⟩ := kQ.cells
      by_cases hI : LL.In now (LL.nthB ts k).i (LL.nthB ts k).o
      · go_wp2_with fail
        ((refine calm_b (by kernel_rfl) (by kernel_rfl) ?_); (repeat (first | ((apply sure_cons (hg := rfl)); (focus ((intro w' hS'); (obtain ⟨hcS, hfS, hlS⟩ := bcell hS'); (try simp only [World.size_setCell, World.size_alloc, World.size_drew] at hS' hcS hfS hlS); (go_simp); (try go_bits); (try ((first | rw [if_pos (by omega)] | rw [if_neg (by omega)]); go_simp)); (first | (with_reducible rfl) | (with_reducible exact rfl) | (with_reducible exact ⟨rfl, hS'⟩) | (go_at_call 72; go_loud (refine (spec_l1In_c _ _ _ _).mono ?_); rintro e w'' ⟨rfl, hb⟩; (first | (subst hb; exact ⟨rfl, hS'⟩) | exact ⟨rfl, b_to hS' hb (by first | exact Nat.le_refl _ | (have h1 := hS'.size; (try simp only [World.size_setCell, World.size_alloc, World.size_drew] at h1); omega))⟩))))); (simp only [Act.put, List.setIfInBounds_toArray, List.set_cons_zero, List.set_cons_succ])) | ((apply sure_off (hg := rfl)); (simp only [Act.put, List.setIfInBounds_toArray, List.set_cons_zero, List.set_cons_succ])))); (refine sure_nil ?_))
        intro W6 hS6
        clear ekP fkP lkP ekQ fkQ lkQ
        clear gc gf gl
        replace hb := b_step hb hS6; replace kP := kP.b hS6; replace kQ := kQ.b hS6; clear hS6
        obtain ⟨ekP, fkP, lkP⟩ := kP.cells; obtain ⟨ekQ, fkQ, lkQ⟩ := kQ.cells
        go_wp2_with fail
        refine calls_name (fun W => Below W6.heap.size W6 W) (by repeat' (first | with_reducible exact Below.refl _ _ | with_reducible assumption | with_reducible refine b_alloc ?_ _ | with_reducible refine b_drewN ?_ _ | with_reducible refine b_drew ?_ | with_reducible refine b_set ?_ (by first | (simp only [World.size_setCell, World.size_alloc, World.size_drew]; omega) | (simp; done) | (simp; omega)) _ | with_reducible refine b_step ?_ (by with_reducible assumption))) ?_; intro W7 hE; clear ekP fkP lkP ekQ fkQ lkQ; replace hb := b_step hb hE; replace kP := kP.b hE; replace kQ := kQ.b hE; clear hE
        refine (spec_FlyMayTurn_c p q A B c d _ _ _ (h.mono hb) (h'.mono hb)).mono ?_
        rintro e W8 ⟨rfl, hB⟩
        replace hb := b_step hb hB; replace kP := kP.b hB; replace kQ := kQ.b hB; clear hB
        by_cases hM : LL.MayTurn p q k now
        · rw [decide_eq_true hM]
          go_wp2_with fail
          go_roundw
          case rel => exact ⟨k + 1, true, by omega, by go_num, rfl, hs.trans (LL.allTo_hit hlt hI hM), hb, kP, kQ⟩
          case measure => simp [intOf]; omega
        · rw [decide_eq_false hM]
          go_wp2_with fail
          go_ret
          exact ⟨rb (by rw [hs.out, LL.allTo_bad hlt hI hM]), (by repeat' (first | with_reducible exact Below.refl _ _ | with_reducible assumption | with_reducible refine b_alloc ?_ _ | with_reducible refine b_drewN ?_ _ | with_reducible refine b_drew ?_ | with_reducible refine b_set ?_ (by first | (simp only [World.size_setCell, World.size_alloc, World.size_drew]; omega) | (simp; done) | (simp; omega)) _ | with_reducible refine b_step ?_ (by with_reducible assumption)))⟩
      · go_wp2_with fail
        ((refine calm_b (by kernel_rfl) (by kernel_rfl) ?_); (repeat (first | ((apply sure_cons (hg := rfl)); (focus ((intro w' hS'); (obtain ⟨hcS, hfS, hlS⟩ := bcell hS'); (try simp only [World.size_setCell, World.size_alloc, World.size_drew] at hS' hcS hfS hlS); (go_simp); (try go_bits); (try ((first | rw [if_pos (by omega)] | rw [if_neg (by omega)]); go_simp)); (first | (with_reducible rfl) | (with_reducible exact rfl) | (with_reducible exact ⟨rfl, hS'⟩) | (go_at_call 72; go_loud (refine (spec_l1In_c _ _ _ _).mono ?_); rintro e w'' ⟨rfl, hb⟩; (first | (subst hb; exact ⟨rfl, hS'⟩) | exact ⟨rfl, b_to hS' hb (by first | exact Nat.le_refl _ | (have h1 := hS'.size; (try simp only [World.size_setCell, World.size_alloc, World.size_drew] at h1); omega))⟩))))); (simp only [Act.put, List.setIfInBounds_toArray, List.set_cons_zero, List.set_cons_succ])) | ((apply sure_off (hg := rfl)); (simp only [Act.put, List.setIfInBounds_toArray, List.set_cons_zero, List.set_cons_succ])))); (refine sure_nil ?_))
        intro W6 hS6
        clear ekP fkP lkP ekQ fkQ lkQ
        clear gc gf gl
        replace hb := b_step hb hS6; replace kP := kP.b hS6; replace kQ := kQ.b hS6; clear hS6
        go_wp2_with fail
        go_roundw
        case rel => exact ⟨k + 1, b, by omega, by go_num, rfl, hs.trans (LL.allTo_skip hlt hI), hb, kP, kQ⟩
        case measure => simp [intOf]; omega
    · obtain rfl : k = ts.length := by omega
      go_wp2_with fail
      go_ret
      exact ⟨rb (by rw [hs.out, LL.allTo_end (Nat.le_refl _)]), (by repeat' (first | with_reducible exact Below.refl _ _ | with_reducible assumption | with_reducible refine b_alloc ?_ _ | with_reducible refine b_drewN ?_ _ | with_reducible refine b_drew ?_ | with_reducible refine b_set ?_ (by first | (simp only [World.size_setCell, World.size_alloc, World.size_drew]; omega) | (simp; done) | (simp; omega)) _ | with_reducible refine b_step ?_ (by with_reducible assumption)))⟩
set_option maxRecDepth 100000 in
set_option maxHeartbeats 4000000 in
theorem spec_FlyTurnBy_c (p q : LL.Path) (A B : Option Addr) (c d : Nat) (fr : Int) (w : World) (h : RdS w A p.steps.length c p.steps) (h' : RdS w B q.steps.length d q.steps) : Calls Try.prog 55 #[.agg #[.int .i64 p.q, .int .i64 p.s, .slice A p.steps.length c, .int .i64 p.fr, .int .i64 p.by_], .agg #[.int .i64 q.q, .int .i64 q.s, .slice B q.steps.length d, .int .i64 q.fr, .int .i64 q.by_], .int .i64 fr] w fun e w' => e = .returned (.int .i64 (LL.turnBy p q fr)) ∧ Below w.heap.size w w' := by
  go_enter Try.func55, Try.ntmps55
  go_wp2_with fail
  refine calls_name (fun W => Below w.heap.size w W ∧ Blk W w.heap.size #[.int .i64 p.q, .int .i64 p.s, .slice A p.steps.length c, .int .i64 p.fr, .int .i64 p.by_] 43 ∧ Blk W (w.heap.size + 1) #[.int .i64 q.q, .int .i64 q.s, .slice B q.steps.length d, .int .i64 q.fr, .int .i64 q.by_] 43) ⟨(by repeat' (first | with_reducible exact Below.refl _ _ | with_reducible assumption | with_reducible refine b_alloc ?_ _ | with_reducible refine b_drewN ?_ _ | with_reducible refine b_drew ?_ | with_reducible refine b_set ?_ (by first | (simp only [World.size_setCell, World.size_alloc, World.size_drew]; omega) | (simp; done) | (simp; omega)) _ | with_reducible refine b_step ?_ (by with_reducible assumption))), (by repeat' (first | with_reducible assumption | with_reducible exact Blk.new _ _ _ | with_reducible exact Blk.new' _ _ (by first | (simp only [World.size_alloc, World.size_setCell, World.size_drew]; done) | (simp only [World.size_alloc, World.size_setCell, World.size_drew]; omega) | omega) | with_reducible refine Blk.a ?_ _ | with_reducible refine Blk.d ?_ | with_reducible refine Blk.dN ?_ _ | with_reducible refine Blk.s ?_ (by simp only [ne_eq]; omega) _ | with_reducible refine Blk.b ?_ (by with_reducible assumption))), (by repeat' (first | with_reducible assumption | with_reducible exact Blk.new _ _ _ | with_reducible exact Blk.new' _ _ (by first | (simp only [World.size_alloc, World.size_setCell, World.size_drew]; done) | (simp only [World.size_alloc, World.size_setCell, World.size_drew]; omega) | omega) | with_reducible refine Blk.a ?_ _ | with_reducible refine Blk.d ?_ | with_reducible refine Blk.dN ?_ _ | with_reducible refine Blk.s ?_ (by simp only [ne_eq]; omega) _ | with_reducible refine Blk.b ?_ (by with_reducible assumption)))⟩ ?_
  rintro W1 ⟨hb, kP, kQ⟩
  refine (spec_FlyTube_c p A c _ (h.mono hb)).mono ?_
  intro e W2 hM
  obtain ⟨As, cs, rfl, hO, -, hB⟩ := hM.go boxE
  replace hb := b_step hb hB; replace kP := kP.b hB; replace kQ := kQ.b hB; clear hB
  clear hM
  by_cases hG : LL.In fr 0 10000 ∧ LL.PathOk q
  · obtain ⟨hI, hQ⟩ := id hG
    obtain ⟨g0, g1⟩ := id hI
    obtain ⟨ekP, fkP, lkP⟩ := kP.cells; obtain ⟨ekQ, fkQ, lkQ⟩ := kQ.cells
    go_wp2_with (go_at_call 72; refine (spec_l1In_c _ _ _ _).mono ?_; rintro e w' ⟨rfl, rfl⟩)
    refine calls_name (fun W => Below W2.heap.size W2 W) (by repeat' (first | with_reducible exact Below.refl _ _ | with_reducible assumption | with_reducible refine b_alloc ?_ _ | with_reducible refine b_drewN ?_ _ | with_reducible refine b_drew ?_ | with_reducible refine b_set ?_ (by first | (simp only [World.size_setCell, World.size_alloc, World.size_drew]; omega) | (simp; done) | (simp; omega)) _ | with_reducible refine b_step ?_ (by with_reducible assumption))) ?_; intro W3 hE; clear ekP fkP lkP ekQ fkQ lkQ; replace hb := b_step hb hE; replace kP := kP.b hE; replace kQ := kQ.b hE; replace hO := hO.b hE; clear hE
    refine (spec_FlyPathOk_c q B d _ (h'.mono hb)).mono ?_
    rintro e W4 ⟨rfl, hB⟩
    replace hb := b_step hb hB; replace kP := kP.b hB; replace kQ := kQ.b hB; replace hO := hO.b hB; clear hB
    rw [decide_eq_true hQ]
    go_wp2_with fail
    go_loopw [8] (fun i wr => ∃ t : Int, fr ≤ t ∧ t ≤ 10001 ∧ i = .int .i64 t ∧ LL.Same (LL.stopTo p q (LL.tubeM p) fr) (LL.stopTo p q (LL.tubeM p) t) ∧ Below w.heap.size w wr ∧ Blk wr w.heap.size #[.int .i64 p.q, .int .i64 p.s, .slice A p.steps.length c, .int .i64 p.fr, .int .i64 p.by_] 43 ∧ Blk wr (w.heap.size + 1) #[.int .i64 q.q, .int .i64 q.s, .slice B q.steps.length d, .int .i64 q.fr, .int .i64 q.by_] 43 ∧ Own boxC 6 48 62 wr (.slice As (LL.tubeM p).length cs) (LL.tubeM p)) (fun i _ => (10001 - intOf i).toNat)
    case atStart => exact ⟨fr, Int.le_refl _, by omega, rfl, (rfl : _ = _), hb, kP, kQ, hO⟩
    case round =>
      clear hb kP kQ hO
      obtain ⟨t, ht0, ht1, rfl, hs, hb, kP, kQ, hO⟩ := hrel
      by_cases hlt : t ≤ 10000
      · have hd : decide (t ≤ (10000 : Int)) = true := by simpa using hlt
        obtain ⟨ekP, fkP, lkP⟩ := kP.cells; obtain ⟨ekQ, fkQ, lkQ⟩ := kQ.cells
        go_wp2_with fail
        refine calls_name (fun W => Below wr.heap.size wr W) (by repeat' (first | with_reducible exact Below.refl _ _ | with_reducible assumption | with_reducible refine b_alloc ?_ _ | with_reducible refine b_drewN ?_ _ | with_reducible refine b_drew ?_ | with_reducible refine b_set ?_ (by first | (simp only [World.size_setCell, World.size_alloc, World.size_drew]; omega) | (simp; done) | (simp; omega)) _ | with_reducible refine b_step ?_ (by with_reducible assumption))) ?_; intro W7 hE; clear ekP fkP lkP ekQ fkQ lkQ; replace hb := b_step hb hE; replace kP := kP.b hE; replace kQ := kQ.b hE; replace hO := hO.b hE; clear hE
        refine (spec_l8All_c p q A B As c d cs (LL.tubeM p) t _ (h.mono hb) (h'.mono hb) (hO.rd_at' boxE)).mono ?_
        rintro e W8 ⟨rfl, hB⟩
        replace hb := b_step hb hB; replace kP := kP.b hB; replace kQ := kQ.b hB; replace hO := hO.b hB; clear hB
        by_cases hA : LL.allTo p q (LL.tubeM p) t 0 false = true
        · rw [hA]
          go_wp2_with fail
          go_roundw
          case rel => exact ⟨t + 1, by omega, by omega, rfl, hs.trans (LL.stopTo_go hlt hA), hb, kP, kQ, hO⟩
          case measure => simp [intOf]; omega
        · have hA' := Bool.eq_false_iff.2 hA
          have hst := hs.out.trans (LL.stopTo_no hlt hA')
          rw [hA']
          have Hst := Lib.hid hst
          clear hA hA' hst
          by_cases he : t = fr
          · have he2 : (t == fr) = true := by simp [he]
            have He := Lib.hid he
            clear he
            go_wp2_with fail
            go_ret
            exact ⟨ri (LL.turnBy_none hG (by rw [Hst.out, He.out])).symm, (by repeat' (first | with_reducible exact Below.refl _ _ | with_reducible assumption | with_reducible refine b_alloc ?_ _ | with_reducible refine b_drewN ?_ _ | with_reducible refine b_drew ?_ | with_reducible refine b_set ?_ (by first | (simp only [World.size_setCell, World.size_alloc, World.size_drew]; omega) | (simp; done) | (simp; omega)) _ | with_reducible refine b_step ?_ (by with_reducible assumption)))⟩
          · have he2 : (t == fr) = false := by simp [he]
            go_wp2_with fail
            go_ret
            exact ⟨ri (LL.turnBy_some hG Hst.out he).symm, (by repeat' (first | with_reducible exact Below.refl _ _ | with_reducible assumption | with_reducible refine b_alloc ?_ _ | with_reducible refine b_drewN ?_ _ | with_reducible refine b_drew ?_ | with_reducible refine b_set ?_ (by first | (simp only [World.size_setCell, World.size_alloc, World.size_drew]; omega) | (simp; done) | (simp; omega)) _ | with_reducible refine b_step ?_ (by with_reducible assumption)))⟩
      · have hd : decide (t ≤ (10000 : Int)) = false := by simpa using hlt
        have hst := hs.out.trans (LL.stopTo_end (by omega))
        have Hst := Lib.hid hst
        clear hst
        have he : t ≠ fr := by omega
        have he2 : (t == fr) = false := by simp [he]
        go_wp2_with fail
        go_ret
        exact ⟨ri (LL.turnBy_some hG Hst.out he).symm, (by repeat' (first | with_reducible exact Below.refl _ _ | with_reducible assumption | with_reducible refine b_alloc ?_ _ | with_reducible refine b_drewN ?_ _ | with_reducible refine b_drew ?_ | with_reducible refine b_set ?_ (by first | (simp only [World.size_setCell, World.size_alloc, World.size_drew]; omega) | (simp; done) | (simp; omega)) _ | with_reducible refine b_step ?_ (by with_reducible assumption)))⟩
  · by_cases hI : LL.In fr 0 10000
    · have hQ : ¬ LL.PathOk q := fun h9 => hG ⟨hI, h9⟩
      obtain ⟨ekP, fkP, lkP⟩ := kP.cells; obtain ⟨ekQ, fkQ, lkQ⟩ := kQ.cells
      go_wp2_with (go_at_call 72; refine (spec_l1In_c _ _ _ _).mono ?_; rintro e w' ⟨rfl, rfl⟩)
      refine calls_name (fun W => Below W2.heap.size W2 W) (by repeat' (first | with_reducible exact Below.refl _ _ | with_reducible assumption | with_reducible refine b_alloc ?_ _ | with_reducible refine b_drewN ?_ _ | with_reducible refine b_drew ?_ | with_reducible refine b_set ?_ (by first | (simp only [World.size_setCell, World.size_alloc, World.size_drew]; omega) | (simp; done) | (simp; omega)) _ | with_reducible refine b_step ?_ (by with_reducible assumption))) ?_; intro W3 hE; clear ekP fkP lkP ekQ fkQ lkQ; replace hb := b_step hb hE; replace kP := kP.b hE; replace kQ := kQ.b hE; clear hE
      refine (spec_FlyPathOk_c q B d _ (h'.mono hb)).mono ?_
      rintro e W4 ⟨rfl, hB⟩
      replace hb := b_step hb hB; replace kP := kP.b hB; replace kQ := kQ.b hB; clear hB
      rw [decide_eq_false hQ]
      go_wp2_with fail
      go_ret
      exact ⟨ri (LL.turnBy_no hG).symm, (by repeat' (first | with_reducible exact Below.refl _ _ | with_reducible assumption | with_reducible refine b_alloc ?_ _ | with_reducible refine b_drewN ?_ _ | with_reducible refine b_drew ?_ | with_reducible refine b_set ?_ (by first | (simp only [World.size_setCell, World.size_alloc, World.size_drew]; omega) | (simp; done) | (simp; omega)) _ | with_reducible refine b_step ?_ (by with_reducible assumption)))⟩
    · go_wp2_with (go_at_call 72; refine (spec_l1In_c _ _ _ _).mono ?_; rintro e w' ⟨rfl, rfl⟩)
      go_ret
      exact ⟨ri (LL.turnBy_no hG).symm, (by repeat' (first | with_reducible exact Below.refl _ _ | with_reducible assumption | with_reducible refine b_alloc ?_ _ | with_reducible refine b_drewN ?_ _ | with_reducible refine b_drew ?_ | with_reducible refine b_set ?_ (by first | (simp only [World.size_setCell, World.size_alloc, World.size_drew]; omega) | (simp; done) | (simp; omega)) _ | with_reducible refine b_step ?_ (by with_reducible assumption)))⟩
set_option maxRecDepth 100000 in
set_option maxHeartbeats 4000000 in
theorem impl_FlyTurnBy_c (p q : LL.Path) (A B : Option Addr) (c d : Nat) (fr : Int) (w : World) (h : RdS w A p.steps.length c p.steps) (h' : RdS w B q.steps.length d q.steps) : Calls Try.prog 54 #[.agg #[.int .i64 p.q, .int .i64 p.s, .slice A p.steps.length c, .int .i64 p.fr, .int .i64 p.by_], .agg #[.int .i64 q.q, .int .i64 q.s, .slice B q.steps.length d, .int .i64 q.fr, .int .i64 q.by_], .int .i64 fr] w fun e w' => e = .returned (.int .i64 (LL.turnBy p q fr)) ∧ Below w.heap.size w w' := by
  go_enter Try.func54, Try.ntmps54
  by_cases hG : LL.In fr 0 10000 ∧ LL.PathOk q
  · obtain ⟨hI, hQ⟩ := id hG
    obtain ⟨g0, g1⟩ := id hI
    go_wp2_with (go_at_call 70; refine (impl_in_c _ _ _ _).mono ?_; rintro e w' ⟨rfl, rfl⟩)
    refine calls_name (fun W => Below w.heap.size w W ∧ Blk W w.heap.size #[.int .i64 p.q, .int .i64 p.s, .slice A p.steps.length c, .int .i64 p.fr, .int .i64 p.by_] 43 ∧ Blk W (w.heap.size + 1) #[.int .i64 q.q, .int .i64 q.s, .slice B q.steps.length d, .int .i64 q.fr, .int .i64 q.by_] 43) ⟨(by repeat' (first | with_reducible exact Below.refl _ _ | with_reducible assumption | with_reducible refine b_alloc ?_ _ | with_reducible refine b_drewN ?_ _ | with_reducible refine b_drew ?_ | with_reducible refine b_set ?_ (by first | (simp only [World.size_setCell, World.size_alloc, World.size_drew]; omega) | (simp; done) | (simp; omega)) _ | with_reducible refine b_step ?_ (by with_reducible assumption))), (by repeat' (first | with_reducible assumption | with_reducible exact Blk.new _ _ _ | with_reducible exact Blk.new' _ _ (by first | (simp only [World.size_alloc, World.size_setCell, World.size_drew]; done) | (simp only [World.size_alloc, World.size_setCell, World.size_drew]; omega) | omega) | with_reducible refine Blk.a ?_ _ | with_reducible refine Blk.d ?_ | with_reducible refine Blk.dN ?_ _ | with_reducible refine Blk.s ?_ (by simp only [ne_eq]; omega) _ | with_reducible refine Blk.b ?_ (by with_reducible assumption))), (by repeat' (first | with_reducible assumption | with_reducible exact Blk.new _ _ _ | with_reducible exact Blk.new' _ _ (by first | (simp only [World.size_alloc, World.size_setCell, World.size_drew]; done) | (simp only [World.size_alloc, World.size_setCell, World.size_drew]; omega) | omega) | with_reducible refine Blk.a ?_ _ | with_reducible refine Blk.d ?_ | with_reducible refine Blk.dN ?_ _ | with_reducible refine Blk.s ?_ (by simp only [ne_eq]; omega) _ | with_reducible refine Blk.b ?_ (by with_reducible assumption)))⟩ ?_
    rintro W1 ⟨hb, kP, kQ⟩
    refine (impl_FlyPathOk_c q B d _ (h'.mono hb)).mono ?_
    rintro e W2 ⟨rfl, hB⟩
    replace hb := b_step hb hB; replace kP := kP.b hB; replace kQ := kQ.b hB; clear hB
    rw [decide_eq_true hQ]
    obtain ⟨ekP, fkP, lkP⟩ := kP.cells; obtain ⟨ekQ, fkQ, lkQ⟩ := kQ.cells
    go_wp2_with fail
    refine calls_name (fun W => Below W2.heap.size W2 W) (by repeat' (first | with_reducible exact Below.refl _ _ | with_reducible assumption | with_reducible refine b_alloc ?_ _ | with_reducible refine b_drewN ?_ _ | with_reducible refine b_drew ?_ | with_reducible refine b_set ?_ (by first | (simp only [World.size_setCell, World.size_alloc, World.size_drew]; omega) | (simp; done) | (simp; omega)) _ | with_reducible refine b_step ?_ (by with_reducible assumption))) ?_; intro W3 hE; clear ekP fkP lkP ekQ fkQ lkQ; replace hb := b_step hb hE; replace kP := kP.b hE; replace kQ := kQ.b hE; clear hE
    refine (impl_FlyTube_c p A c _ (h.mono hb)).mono ?_
    intro e W4 hM
    obtain ⟨As, cs, rfl, hO, -, hB⟩ := hM.go boxE
    replace hb := b_step hb hB; replace kP := kP.b hB; replace kQ := kQ.b hB; clear hB
    clear hM
    have hroom := hO.room
    go_wp2_with fail
    go_loopw [8] (fun i wr => ∃ t : Int, fr ≤ t ∧ t ≤ 10001 ∧ i = .int .i64 t ∧ LL.Same (LL.stopTo p q (LL.tubeM p) fr) (LL.stopTo p q (LL.tubeM p) t) ∧ Below w.heap.size w wr ∧ Blk wr w.heap.size #[.int .i64 p.q, .int .i64 p.s, .slice A p.steps.length c, .int .i64 p.fr, .int .i64 p.by_] 43 ∧ Blk wr (w.heap.size + 1) #[.int .i64 q.q, .int .i64 q.s, .slice B q.steps.length d, .int .i64 q.fr, .int .i64 q.by_] 43 ∧ Own boxC 6 48 62 wr (.slice As (LL.tubeM p).length cs) (LL.tubeM p)) (fun i _ => (10001 - intOf i).toNat)
    case atStart => exact ⟨fr, Int.le_refl _, by omega, rfl, (rfl : _ = _), hb, kP, kQ, hO⟩
    case round =>
      clear hb kP kQ hO
      obtain ⟨t, ht0, ht1, rfl, hs, hb, kP, kQ, hO⟩ := hrel
      by_cases hlt : t ≤ 10000
      · have hd : decide (t ≤ (10000 : Int)) = true := by simpa using hlt
        go_wp2_with fail
        go_loopw [9, 29] (fun s i wr => ∃ (k : Nat) (b : Bool), k ≤ (LL.tubeM p).length ∧ i = .int .i64 k ∧ s = .bool b ∧ LL.Same (LL.allTo p q (LL.tubeM p) t 0 false) (LL.allTo p q (LL.tubeM p) t k b) ∧ Below w.heap.size w wr ∧ Blk wr w.heap.size #[.int .i64 p.q, .int .i64 p.s, .slice A p.steps.length c, .int .i64 p.fr, .int .i64 p.by_] 43 ∧ Blk wr (w.heap.size + 1) #[.int .i64 q.q, .int .i64 q.s, .slice B q.steps.length d, .int .i64 q.fr, .int .i64 q.by_] 43 ∧ Own boxC 6 48 62 wr (.slice As (LL.tubeM p).length cs) (LL.tubeM p)) (fun _ i _ => (LL.tubeM p).length - (intOf i).toNat)
        case atStart => exact ⟨0, false, Nat.zero_le _, rfl, rfl, (rfl : _ = _), hb, kP, kQ, hO⟩
        case round =>
          rename_i wo _ _ _
          clear hb kP kQ hO
          obtain ⟨k, b, hk, rfl, rfl, ha, hb, kP, kQ, hO⟩ := hrel
          by_cases hlm : k < (LL.tubeM p).length
          · obtain ⟨g, rfl⟩ := hO.someA (by omega)
            obtain ⟨c0, c1, c2, c3, c4, c5⟩ := (hO.rd_at' boxE).S6 k hlm
            simp only [Nat.zero_add] at c0 c1 c2 c3 c4 c5
            have hgl := (hO.row.lt _ rfl).2
            simp only at hgl
            by_cases hIn : LL.In t (LL.nthB (LL.tubeM p) k).i (LL.nthB (LL.tubeM p) k).o
            · obtain ⟨ekP, fkP, lkP⟩ := kP.cells; obtain ⟨ekQ, fkQ, lkQ⟩ := kQ.cells
              go_wp2_with (go_at_call 70; refine (impl_in_c _ _ _ _).mono ?_; rintro e w' ⟨rfl, rfl⟩)
              refine calls_name (fun W => Below wr.heap.size wr W) (by repeat' (first | with_reducible exact Below.refl _ _ | with_reducible assumption | with_reducible refine b_alloc ?_ _ | with_reducible refine b_drewN ?_ _ | with_reducible refine b_drew ?_ | with_reducible refine b_set ?_ (by first | (simp only [World.size_setCell, World.size_alloc, World.size_drew]; omega) | (simp; done) | (simp; omega)) _ | with_reducible refine b_step ?_ (by with_reducible assumption))) ?_; intro W7 hE; clear ekP fkP lkP ekQ fkQ lkQ; replace hb := b_step hb hE; replace kP := kP.b hE; replace kQ := kQ.b hE; replace hO := hO.b hE; clear hE
              refine (impl_FlyMayTurn_c p q A B c d _ _ _ (h.mono hb) (h'.mono hb)).mono ?_
              rintro e W8 ⟨rfl, hB⟩
              replace hb := b_step hb hB; replace kP := kP.b hB; replace kQ := kQ.b hB; replace hO := hO.b hB; clear hB
              by_cases hM : LL.MayTurn p q k t
              · rw [decide_eq_true hM]
                go_wp2_with fail
                go_roundw
                case rel => exact ⟨k + 1, true, by omega, by go_num, rfl, ha.trans (LL.allTo_hit hlm hIn hM), hb, kP, kQ, hO⟩
                case measure => simp [intOf]; omega
              · rw [decide_eq_false hM]
                have hA' := ha.out.trans (LL.allTo_bad hlm hIn hM)
                have hst := hs.out.trans (LL.stopTo_no hlt hA')
                have Hst := Lib.hid hst
                clear hst hA'
                by_cases he : t = fr
                · have he2 : (t == fr) = true := by simp [he]
                  have He := Lib.hid he
                  clear he
                  go_wp2_with fail
                  go_ret
                  exact ⟨ri (LL.turnBy_none hG (by rw [Hst.out, He.out])).symm, (by repeat' (first | with_reducible exact Below.refl _ _ | with_reducible assumption | with_reducible refine b_alloc ?_ _ | with_reducible refine b_drewN ?_ _ | with_reducible refine b_drew ?_ | with_reducible refine b_set ?_ (by first | (simp only [World.size_setCell, World.size_alloc, World.size_drew]; omega) | (simp; done) | (simp; omega)) _ | with_reducible refine b_step ?_ (by with_reducible assumption)))⟩
                · have he2 : (t == fr) = false := by simp [he]
                  go_wp2_with fail
                  go_ret
                  exact ⟨ri (LL.turnBy_some hG Hst.out he).symm, (by repeat' (first | with_reducible exact Below.refl _ _ | with_reducible assumption | with_reducible refine b_alloc ?_ _ | with_reducible refine b_drewN ?_ _ | with_reducible refine b_drew ?_ | with_reducible refine b_set ?_ (by first | (simp only [World.size_setCell, World.size_alloc, World.size_drew]; omega) | (simp; done) | (simp; omega)) _ | with_reducible refine b_step ?_ (by with_reducible assumption)))⟩
            · go_wp2_with (go_at_call 70; refine (impl_in_c _ _ _ _).mono ?_; rintro e w' ⟨rfl, rfl⟩)
              go_roundw
              case rel => exact ⟨k + 1, b, by omega, by go_num, rfl, ha.trans (LL.allTo_skip hlm hIn), (by repeat' (first | with_reducible exact Below.refl _ _ | with_reducible assumption | with_reducible refine b_alloc ?_ _ | with_reducible refine b_drewN ?_ _ | with_reducible refine b_drew ?_ | with_reducible refine b_set ?_ (by first | (simp only [World.size_setCell, World.size_alloc, World.size_drew]; omega) | (simp; done) | (simp; omega)) _ | with_reducible refine b_step ?_ (by with_reducible assumption))), (by repeat' (first | with_reducible assumption | with_reducible exact Blk.new _ _ _ | with_reducible exact Blk.new' _ _ (by first | (simp only [World.size_alloc, World.size_setCell, World.size_drew]; done) | (simp only [World.size_alloc, World.size_setCell, World.size_drew]; omega) | omega) | with_reducible refine Blk.a ?_ _ | with_reducible refine Blk.d ?_ | with_reducible refine Blk.dN ?_ _ | with_reducible refine Blk.s ?_ (by simp only [ne_eq]; omega) _ | with_reducible refine Blk.b ?_ (by with_reducible assumption))), (by repeat' (first | with_reducible assumption | with_reducible exact Blk.new _ _ _ | with_reducible exact Blk.new' _ _ (by first | (simp only [World.size_alloc, World.size_setCell, World.size_drew]; done) | (simp only [World.size_alloc, World.size_setCell, World.size_drew]; omega) | omega) | with_reducible refine Blk.a ?_ _ | with_reducible refine Blk.d ?_ | with_reducible refine Blk.dN ?_ _ | with_reducible refine Blk.s ?_ (by simp only [ne_eq]; omega) _ | with_reducible refine Blk.b ?_ (by with_reducible assumption))), hO.a _⟩
              case measure => simp [intOf]; omega
          · obtain rfl : k = (LL.tubeM p).length := by omega
            cases b
            · have hA' := ha.out.trans (LL.allTo_end (Nat.le_refl _))
              have hst := hs.out.trans (LL.stopTo_no hlt hA')
              have Hst := Lib.hid hst
              clear hst hA'
              by_cases he : t = fr
              · have he2 : (t == fr) = true := by simp [he]
                have He := Lib.hid he
                clear he
                go_wp2_with fail
                go_ret
                exact ⟨ri (LL.turnBy_none hG (by rw [Hst.out, He.out])).symm, (by repeat' (first | with_reducible exact Below.refl _ _ | with_reducible assumption | with_reducible refine b_alloc ?_ _ | with_reducible refine b_drewN ?_ _ | with_reducible refine b_drew ?_ | with_reducible refine b_set ?_ (by first | (simp only [World.size_setCell, World.size_alloc, World.size_drew]; omega) | (simp; done) | (simp; omega)) _ | with_reducible refine b_step ?_ (by with_reducible assumption)))⟩
              · have he2 : (t == fr) = false := by simp [he]
                go_wp2_with fail
                go_ret
                exact ⟨ri (LL.turnBy_some hG Hst.out he).symm, (by repeat' (first | with_reducible exact Below.refl _ _ | with_reducible assumption | with_reducible refine b_alloc ?_ _ | with_reducible refine b_drewN ?_ _ | with_reducible refine b_drew ?_ | with_reducible refine b_set ?_ (by first | (simp only [World.size_setCell, World.size_alloc, World.size_drew]; omega) | (simp; done) | (simp; omega)) _ | with_reducible refine b_step ?_ (by with_reducible assumption)))⟩
            · have hA := ha.out.trans (LL.allTo_end (Nat.le_refl _))
              have hT := hs.trans (LL.stopTo_go hlt hA)
              clear hA
              go_wp2_with fail
              go_roundw
              case rel => exact ⟨t + 1, by omega, by omega, rfl, hT, hb, kP, kQ, hO⟩
              case measure => simp [intOf]; omega
      · have hd : decide (t ≤ (10000 : Int)) = false := by simpa using hlt
        have hst := hs.out.trans (LL.stopTo_end (by omega))
        have Hst := Lib.hid hst
        clear hst
        have he : t ≠ fr := by omega
        have he2 : (t == fr) = false := by simp [he]
        go_wp2_with fail
        go_ret
        exact ⟨ri (LL.turnBy_some hG Hst.out he).symm, (by repeat' (first | with_reducible exact Below.refl _ _ | with_reducible assumption | with_reducible refine b_alloc ?_ _ | with_reducible refine b_drewN ?_ _ | with_reducible refine b_drew ?_ | with_reducible refine b_set ?_ (by first | (simp only [World.size_setCell, World.size_alloc, World.size_drew]; omega) | (simp; done) | (simp; omega)) _ | with_reducible refine b_step ?_ (by with_reducible assumption)))⟩
  · by_cases hI : LL.In fr 0 10000
    · have hQ : ¬ LL.PathOk q := fun h9 => hG ⟨hI, h9⟩
      go_wp2_with (go_at_call 70; refine (impl_in_c _ _ _ _).mono ?_; rintro e w' ⟨rfl, rfl⟩)
      refine calls_name (fun W => Below w.heap.size w W) (by repeat' (first | with_reducible exact Below.refl _ _ | with_reducible assumption | with_reducible refine b_alloc ?_ _ | with_reducible refine b_drewN ?_ _ | with_reducible refine b_drew ?_ | with_reducible refine b_set ?_ (by first | (simp only [World.size_setCell, World.size_alloc, World.size_drew]; omega) | (simp; done) | (simp; omega)) _ | with_reducible refine b_step ?_ (by with_reducible assumption))) ?_
      intro W1 hb
      refine (impl_FlyPathOk_c q B d _ (h'.mono hb)).mono ?_
      rintro e W2 ⟨rfl, hB⟩
      replace hb := b_step hb hB
      clear hB
      rw [decide_eq_false hQ]
      go_wp2_with fail
      go_ret
      exact ⟨ri (LL.turnBy_no hG).symm, (by repeat' (first | with_reducible exact Below.refl _ _ | with_reducible assumption | with_reducible refine b_alloc ?_ _ | with_reducible refine b_drewN ?_ _ | with_reducible refine b_drew ?_ | with_reducible refine b_set ?_ (by first | (simp only [World.size_setCell, World.size_alloc, World.size_drew]; omega) | (simp; done) | (simp; omega)) _ | with_reducible refine b_step ?_ (by with_reducible assumption)))⟩
    · go_wp2_with (go_at_call 70; refine (impl_in_c _ _ _ _).mono ?_; rintro e w' ⟨rfl, rfl⟩)
      go_ret
      exact ⟨ri (LL.turnBy_no hG).symm, (by repeat' (first | with_reducible exact Below.refl _ _ | with_reducible assumption | with_reducible refine b_alloc ?_ _ | with_reducible refine b_drewN ?_ _ | with_reducible refine b_drew ?_ | with_reducible refine b_set ?_ (by first | (simp only [World.size_setCell, World.size_alloc, World.size_drew]; omega) | (simp; done) | (simp; omega)) _ | with_reducible refine b_step ?_ (by with_reducible assumption)))⟩
end Go.Proofs.Ytpeojnknfonmlaa
