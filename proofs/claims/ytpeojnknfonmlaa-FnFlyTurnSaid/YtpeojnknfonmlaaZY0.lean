/- The laws' own: whether all who may be anywhere now can turn. -/
import Derived.Test.YtpeojnknfonmlaaPG
import Derived.Test.YtpeojnknfonmlaaS4
import Derived.Test.YtpeojnknfonmlaaX6
set_option linter.unusedVariables false
set_option linter.unusedSimpArgs false
namespace Go.Proofs.Ytpeojnknfonmlaa
open Go.RowKit
theorem LL.spans_lenY (p : LL.Path) : (LL.spans p).length = p.steps.length + 1 := LL.tab_len _ _
theorem LL.spans_zeroY (p : LL.Path) : LL.nthP (LL.spans p) 0 = ⟨LL.lo p 0, LL.hi p 0⟩ := LL.tab_getD (Nat.succ_pos _)
theorem LL.p0_noY : ¬ LL.Flies LL.p0 := fun h => by have := h.1.1.1; exact absurd this (by decide)
attribute [local go_sem] w_lt_add w_le_of w_le_add max2_i min2_i
set_option maxRecDepth 100000 in
set_option maxHeartbeats 8000000 in
theorem wfAll_c (p q : LL.Path) (ts : List LL.Box) (A B T : Option Addr) (c d m : Nat) (now : Int) (hn0 : -10 ≤ now) (hn1 : now ≤ 30000) (w : World) (h : RdS w A p.steps.length c p.steps) (h' : RdS w B q.steps.length d q.steps) (ht : RdB w T ts.length m ts) : Calls Try.prog 58 #[.agg #[.int .i64 p.q, .int .i64 p.s, .slice A p.steps.length c, .int .i64 p.fr, .int .i64 p.by_], .agg #[.int .i64 q.q, .int .i64 q.s, .slice B q.steps.length d, .int .i64 q.fr, .int .i64 q.by_], .slice T ts.length m, .int .i64 now] w fun e w' => e = .returned (.bool (LL.allTo p q ts now 0 false)) ∧ Below w.heap.size w w' := by
  have hroom := ht.room
  have kP0 := (Blk.new w #[.int .i64 p.q, .int .i64 p.s, .slice A p.steps.length c, .int .i64 p.fr, .int .i64 p.by_] 43).a (.cells #[.int .i64 q.q, .int .i64 q.s, .slice B q.steps.length d, .int .i64 q.fr, .int .i64 q.by_] 43)
  have kQ0 := Blk.new' (w := w.alloc (.cells #[.int .i64 p.q, .int .i64 p.s, .slice A p.steps.length c, .int .i64 p.fr, .int .i64 p.by_] 43)) (g := w.heap.size + 1) #[.int .i64 q.q, .int .i64 q.s, .slice B q.steps.length d, .int .i64 q.fr, .int .i64 q.by_] 43 (by simp)
  go_enter Try.func58, Try.ntmps58
  go_wp2
  go_loopw [9, 10, 11, 12, 13, 14, 15, 16, 17, 18, 19] (fun s kk a b c1 d1 e f g i j wr => ∃ (k : Nat) (sb : Bool), s = .bool sb ∧ kk = .int .i64 k ∧ k ≤ ts.length ∧ LL.Same (LL.allTo p q ts now 0 false) (LL.allTo p q ts now k sb) ∧ Blk wr w.heap.size #[.int .i64 p.q, .int .i64 p.s, .slice A p.steps.length c, .int .i64 p.fr, .int .i64 p.by_] 43 ∧ Blk wr (w.heap.size + 1) #[.int .i64 q.q, .int .i64 q.s, .slice B q.steps.length d, .int .i64 q.fr, .int .i64 q.by_] 43 ∧ Below w.heap.size w wr) (fun _ kk _ _ _ _ _ _ _ _ _ _ => ts.length - (intOf kk).toNat)
  case atStart => exact ⟨0, false, rfl, rfl, by omega, rfl, kP0, kQ0, (by repeat' (first | with_reducible exact Below.refl _ _ | with_reducible assumption | with_reducible refine b_alloc ?_ _ | with_reducible refine b_drewN ?_ _ | with_reducible refine b_drew ?_ | with_reducible refine b_set ?_ (by first | (simp only [World.size_setCell, World.size_alloc, World.size_drew]; omega) | (simp; done) | (simp; omega)) _ | with_reducible refine b_step ?_ (by with_reducible assumption)))⟩
  case round =>
    obtain ⟨k, sb, rfl, rfl, hk, hs, kP, kQ, hb⟩ := hrel
    clear kP0 kQ0
    obtain ⟨e0, f0, l0⟩ := kP.cells
    obtain ⟨e1, f1, l1⟩ := kQ.cells
    obtain ⟨gc, gf, gl⟩ := bcell hb
    have hzr := hb.size
    by_cases hlt : k < ts.length
    · obtain ⟨bT, oT, rfl, hbT⟩ := ht.addr (by omega)
      obtain ⟨t0, t1, t2, t3, t4, t5⟩ := ht.S6 k hlt
      by_cases h1 : now < (LL.nthB ts k).i
      · have hsk := hs.trans (LL.allTo_skip (s := sb) hlt (fun h9 => by have := h9.1; omega))
        go_wp2
        go_roundw
        case rel => exact ⟨k + 1, sb, rfl, by go_num, by omega, hsk, kP, kQ, hb⟩
        case measure => simp [intOf]; omega
      by_cases h2 : (LL.nthB ts k).o < now
      · have hsk := hs.trans (LL.allTo_skip (s := sb) hlt (fun h9 => by have := h9.2; omega))
        go_wp2
        go_roundw
        case rel => exact ⟨k + 1, sb, rfl, by go_num, by omega, hsk, kP, kQ, hb⟩
        case measure => simp [intOf]; omega
      have hin : LL.In now (LL.nthB ts k).i (LL.nthB ts k).o := ⟨by omega, by omega⟩
      have hyes := fun hM => hs.out.trans (LL.allTo_hit (s := sb) hlt hin hM)
      have hno := fun hM => hs.out.trans (LL.allTo_bad (s := sb) hlt hin hM)
      replace hyes := Lib.hid hyes
      replace hno := Lib.hid hno
      clear hs hin
      generalize LL.nthB ts k = bx at *
      by_cases hC : LL.CanSeen p k now
      · have hFr := hC.flies'
        have hMayt : k < LL.shared p q → LL.CanRest q k (LL.lo (LL.snP p k now) 0) now → LL.CanRest q k (LL.hi (LL.snP p k now) 0) now → LL.MayTurn p q k now := fun a b c => ⟨hC, b.1, by omega, b, c⟩
        have hMayf := fun (hM : LL.MayTurn p q k now) t a b => LL.may_all hM t a b
        have hMayk : LL.MayTurn p q k now → k < LL.shared p q := fun hM => by have := hM.2.2.1; omega
        obtain ⟨y0, y1, y2⟩ := LL.seen_rng hC
        replace hMayt := Lib.hid hMayt
        replace hMayf := Lib.hid hMayf
        replace hMayk := Lib.hid hMayk
        go_upto_region 9 with (first | (go_at_call 45; go_loud (refine (impl_FlySeen_c p A c k now _ (by exact Rd.mono (by with_reducible assumption) (by repeat' (first | with_reducible exact Below.refl _ _ | with_reducible assumption | with_reducible refine b_alloc ?_ _ | with_reducible refine b_drewN ?_ _ | with_reducible refine b_drew ?_ | with_reducible refine b_set ?_ (by first | (simp only [World.size_setCell, World.size_alloc, World.size_drew]; omega) | (simp; done) | (simp; omega)) _ | with_reducible refine b_step ?_ (by with_reducible assumption))))).mono ?_); intro e w5 hM; go_loud (rw [LL.seenM_yes hC, decide_eq_true hC] at hM); obtain ⟨A5, c5, rfl, hO5, -, hB5⟩ := hM.gop2; have hS5 := hO5.rd_at' stepE; obtain ⟨hc5, hf5, hl5⟩ := bcell hB5; have hz5 := hB5.size; have yw5_0 : w.heap.size < w5.heap.size := (by omega); have yw5_1 : w.heap.size + 1 < w5.heap.size := (by omega)) | (go_at_call 24; go_loud (refine (impl_FlySpans_c (LL.snP p k now) A5 c5 _ (by exact Rd.mono (by with_reducible assumption) (by repeat' (first | with_reducible exact Below.refl _ _ | with_reducible assumption | with_reducible refine b_alloc ?_ _ | with_reducible refine b_drewN ?_ _ | with_reducible refine b_drew ?_ | with_reducible refine b_set ?_ (by first | (simp only [World.size_setCell, World.size_alloc, World.size_drew]; omega) | (simp; done) | (simp; omega)) _ | with_reducible refine b_step ?_ (by with_reducible assumption))))).mono ?_); intro e w6 hM; go_loud (rw [LL.spansM_yes hFr, decide_eq_true hFr] at hM); obtain ⟨A6, c6, e9, hO6, -, hB6⟩ := hM.go2 spanE; rw [LL.spans_lenY] at e9 hO6; subst e9; have hL6 := hO6.rd_at' spanE; obtain ⟨hc6, hf6, hl6⟩ := bcell hB6; have hz6 := hB6.size; (try simp only [World.size_alloc] at hz6); have yw6_0 : w.heap.size < w6.heap.size := (by omega); have yw6_1 : w.heap.size + 1 < w6.heap.size := (by omega); have yw6_2 : w5.heap.size < w6.heap.size := (by omega)))
        have hL6' : RdP w6 A6 ((LL.snP p k now).steps.length + 1) c6 (LL.spans (LL.snP p k now)) := hL6
        have kP6 : Blk w6 w.heap.size #[.int .i64 p.q, .int .i64 p.s, .slice A p.steps.length c, .int .i64 p.fr, .int .i64 p.by_] 43 := (by repeat' (first | with_reducible assumption | with_reducible exact Blk.new _ _ _ | with_reducible exact Blk.new' _ _ (by first | (simp only [World.size_alloc, World.size_setCell, World.size_drew]; done) | (simp only [World.size_alloc, World.size_setCell, World.size_drew]; omega) | omega) | with_reducible refine Blk.a ?_ _ | with_reducible refine Blk.d ?_ | with_reducible refine Blk.dN ?_ _ | with_reducible refine Blk.s ?_ (by simp only [ne_eq]; omega) _ | with_reducible refine Blk.b ?_ (by with_reducible assumption)))
        have kQ6 : Blk w6 (w.heap.size + 1) #[.int .i64 q.q, .int .i64 q.s, .slice B q.steps.length d, .int .i64 q.fr, .int .i64 q.by_] 43 := (by repeat' (first | with_reducible assumption | with_reducible exact Blk.new _ _ _ | with_reducible exact Blk.new' _ _ (by first | (simp only [World.size_alloc, World.size_setCell, World.size_drew]; done) | (simp only [World.size_alloc, World.size_setCell, World.size_drew]; omega) | omega) | with_reducible refine Blk.a ?_ _ | with_reducible refine Blk.d ?_ | with_reducible refine Blk.dN ?_ _ | with_reducible refine Blk.s ?_ (by simp only [ne_eq]; omega) _ | with_reducible refine Blk.b ?_ (by with_reducible assumption)))
        have hb6 : Below w.heap.size w w6 := (by repeat' (first | with_reducible exact Below.refl _ _ | with_reducible assumption | with_reducible refine b_alloc ?_ _ | with_reducible refine b_drewN ?_ _ | with_reducible refine b_drew ?_ | with_reducible refine b_set ?_ (by first | (simp only [World.size_setCell, World.size_alloc, World.size_drew]; omega) | (simp; done) | (simp; omega)) _ | with_reducible refine b_step ?_ (by with_reducible assumption)))
        clear hB5 hB6 hc5 hf5 hl5 hc6 hf6 hl6 hO5 hO6 hS5 hL6 hb kP kQ e0 f0 l0 e1 f1 l1 gc gf gl hFr hC t0 t1 t2 t3 t4 t5
        obtain ⟨bL, oL, rfl, hbL⟩ := hL6'.addr (by omega)
        obtain ⟨d0, d1⟩ := hL6'.S2 0 (by omega)
        rw [LL.spans_zeroY] at d0 d1
        simp only [Nat.zero_mul, Nat.add_zero] at d0 d1
        have hS6 := h'.mono hb6
        have hSp6 := h.mono hb6
        generalize hlo : LL.lo (LL.snP p k now) 0 = lo at d0 d1 hMayt hMayf hMayk y0 y1 y2
        generalize hhi : LL.hi (LL.snP p k now) 0 = hi at d0 d1 hMayt hMayf hMayk y0 y1 y2
        have hlo' := hlo
        have hhi' := hhi
        clear hlo hhi
        have lP := blk_lt kP6.at_
        have lQ := blk_lt kQ6.at_
        have lB := w5.heap.size
        obtain ⟨e0, f0, l0⟩ := kP6.cells
        obtain ⟨e1, f1, l1⟩ := kQ6.cells
        by_cases hsh : (LL.shared p q : Int) ≤ k
        · have hnm : ¬ LL.MayTurn p q k now := fun hM => by have := hMayk.out hM; omega
          have hres := hno.out hnm
          replace hres := Lib.hid hres
          clear hyes hno hnm
          go_wp2_with (go_at_call 56; go_loud (refine (impl_FlyShared_c p q A B c d _ (hSp6.mono (by repeat' (first | with_reducible exact Below.refl _ _ | with_reducible assumption | with_reducible refine b_alloc ?_ _ | with_reducible refine b_drewN ?_ _ | with_reducible refine b_drew ?_ | with_reducible refine b_set ?_ (by first | (simp only [World.size_setCell, World.size_alloc, World.size_drew]; omega) | (simp; done) | (simp; omega)) _ | with_reducible refine b_step ?_ (by with_reducible assumption)))) (hS6.mono (by repeat' (first | with_reducible exact Below.refl _ _ | with_reducible assumption | with_reducible refine b_alloc ?_ _ | with_reducible refine b_drewN ?_ _ | with_reducible refine b_drew ?_ | with_reducible refine b_set ?_ (by first | (simp only [World.size_setCell, World.size_alloc, World.size_drew]; omega) | (simp; done) | (simp; omega)) _ | with_reducible refine b_step ?_ (by with_reducible assumption))))).mono ?_); rintro e w7 ⟨rfl, hB7⟩; obtain ⟨hc7, hf7, hl7⟩ := bcell hB7; have hz7 := hB7.size; (try simp only [World.size_alloc] at hz7); have yw7_0 : w.heap.size < w7.heap.size := (by omega); have yw7_1 : w.heap.size + 1 < w7.heap.size := (by omega); have yw7_2 : w5.heap.size < w7.heap.size := (by omega))
          all_goals go_ret
          all_goals exact ⟨(by rw [hres.out]; rfl), (by repeat' (first | with_reducible exact Below.refl _ _ | with_reducible assumption | with_reducible refine b_alloc ?_ _ | with_reducible refine b_drewN ?_ _ | with_reducible refine b_drew ?_ | with_reducible refine b_set ?_ (by first | (simp only [World.size_setCell, World.size_alloc, World.size_drew]; omega) | (simp; done) | (simp; omega)) _ | with_reducible refine b_step ?_ (by with_reducible assumption)))⟩
        · have hnz : ((((LL.snP p k now).steps.length : Int) + 1) == 0) = false := beq_eq_false_iff_ne.2 (by omega)
          have hsh2 : ¬ LL.shared p q ≤ k := by omega
          go_upto_region 11 with (go_at_call 56; go_loud (refine (impl_FlyShared_c p q A B c d _ (hSp6.mono (by repeat' (first | with_reducible exact Below.refl _ _ | with_reducible assumption | with_reducible refine b_alloc ?_ _ | with_reducible refine b_drewN ?_ _ | with_reducible refine b_drew ?_ | with_reducible refine b_set ?_ (by first | (simp only [World.size_setCell, World.size_alloc, World.size_drew]; omega) | (simp; done) | (simp; omega)) _ | with_reducible refine b_step ?_ (by with_reducible assumption)))) (hS6.mono (by repeat' (first | with_reducible exact Below.refl _ _ | with_reducible assumption | with_reducible refine b_alloc ?_ _ | with_reducible refine b_drewN ?_ _ | with_reducible refine b_drew ?_ | with_reducible refine b_set ?_ (by first | (simp only [World.size_setCell, World.size_alloc, World.size_drew]; omega) | (simp; done) | (simp; omega)) _ | with_reducible refine b_step ?_ (by with_reducible assumption))))).mono ?_); rintro e w7 ⟨rfl, hB7⟩; obtain ⟨hc7, hf7, hl7⟩ := bcell hB7; have hz7 := hB7.size; (try simp only [World.size_alloc] at hz7); have yw7_0 : w.heap.size < w7.heap.size := (by omega); have yw7_1 : w.heap.size + 1 < w7.heap.size := (by omega); have yw7_2 : w5.heap.size < w7.heap.size := (by omega))
          clear hnz
          have hb8 := b_step hb6 hB7
          have lL : bL < w7.heap.size := by omega
          have kP8 := kP6.b hB7
          have kQ8 := kQ6.b hB7
          have hS8 := hS6.mono hB7
          have hL8 := hL6'.mono hB7
          replace d0 := (hL6'.mono hB7).S2 0 (by omega)
          obtain ⟨d0, d1⟩ := d0
          rw [LL.spans_zeroY] at d0 d1
          simp only [Nat.zero_mul, Nat.add_zero] at d0 d1
          rw [hlo'] at d0
          rw [hhi'] at d1
          clear hB7 hc7 hf7 hl7 e0 f0 l0 e1 f1 l1 kP6 kQ6 hL6' hSp6 hS6 hb6 lP lQ yw7_0 yw7_1 yw7_2
          have lP := blk_lt kP8.at_
          have lQ := blk_lt kQ8.at_
          obtain ⟨e0, f0, l0⟩ := kP8.cells
          obtain ⟨e1, f1, l1⟩ := kQ8.cells
          go_wp2
          go_loopw [15, 16, 17] (fun tt x y wq => ∃ t : Int, lo ≤ t ∧ t ≤ 20000 ∧ tt = .int .i64 t ∧ (lo < t → LL.CanRest q k lo now) ∧ Below w7.heap.size w7 wq) (fun tt _ _ _ => (hi + 1 - intOf tt).toNat)
          case atStart => exact ⟨lo, by omega, by omega, rfl, fun h9 => by omega, (by repeat' (first | with_reducible exact Below.refl _ _ | with_reducible assumption | with_reducible refine b_alloc ?_ _ | with_reducible refine b_drewN ?_ _ | with_reducible refine b_drew ?_ | with_reducible refine b_set ?_ (by first | (simp only [World.size_setCell, World.size_alloc, World.size_drew]; omega) | (simp; done) | (simp; omega)) _ | with_reducible refine b_step ?_ (by with_reducible assumption)))⟩
          case round =>
            obtain ⟨t, ht0, ht1, rfl, hlr, hbq⟩ := hrel
            obtain ⟨hc, hf, hl⟩ := bcell hbq
            have hzq := hbq.size
            replace hlr := Lib.hid hlr
            by_cases hle : t ≤ hi
            · by_cases hcr : LL.CanRest q k t now
              · have hlr2 : lo < t + 1 + (hi - lo) / 5 → LL.CanRest q k lo now := fun _ => by
                  by_cases e9 : t = lo
                  · rw [← e9]; exact hcr
                  · exact hlr.out (by omega)
                replace hlr2 := Lib.hid hlr2
                go_upto_region 15 with (go_at_call 43; go_loud (refine (impl_FlyRest_c q B d k t now _ (hS8.mono (by repeat' (first | with_reducible exact Below.refl _ _ | with_reducible assumption | with_reducible refine b_alloc ?_ _ | with_reducible refine b_drewN ?_ _ | with_reducible refine b_drew ?_ | with_reducible refine b_set ?_ (by first | (simp only [World.size_setCell, World.size_alloc, World.size_drew]; omega) | (simp; done) | (simp; omega)) _ | with_reducible refine b_step ?_ (by with_reducible assumption))))).mono ?_); intro e w9 hM; go_loud (rw [LL.restM_yes hcr, decide_eq_true hcr] at hM); obtain ⟨A9, c9, rfl, hO9, -, hB9⟩ := hM.gop2; obtain ⟨hc9, hf9, hl9⟩ := bcell hB9; have hz9 := hB9.size)
                have hb10 : Below w7.heap.size w7 (w9.alloc (.cells #[.int .i64 (LL.rsP q k t now).q, .int .i64 (LL.rsP q k t now).s, .slice A9 (LL.rsP q k t now).steps.length c9, .int .i64 (LL.rsP q k t now).fr, .int .i64 (LL.rsP q k t now).by_] 43)) := b_alloc (b_step hbq hB9) _
                refine wp_name (fun W => Below w7.heap.size w7 W) hb10 ?_
                clear hb10 hc9 hf9 hl9 hO9 hB9 hc hf hl hbq hcr
                rintro W10 hb10
                obtain ⟨hc, hf, hl⟩ := bcell hb10
                go_upto_region 13 with fail
                ((refine calm_b (by kernel_rfl) (by kernel_rfl) ?_); (repeat (first | ((apply sure_cons (hg := rfl)); (focus ((intro w' hS'); (obtain ⟨hcS, hfS, hlS⟩ := bcell hS'); (try simp only [World.size_setCell, World.size_alloc, World.size_drew] at hS' hcS hfS hlS); (go_simp); (try go_bits); (try ((first | rw [if_pos (by omega)] | rw [if_neg (by omega)]); go_simp)); (first | (with_reducible rfl) | (with_reducible exact rfl) | (with_reducible exact ⟨rfl, hS'⟩) | fail))); (simp only [Act.put, List.setIfInBounds_toArray, List.set_cons_zero, List.set_cons_succ])) | ((apply sure_off (hg := rfl)); (simp only [Act.put, List.setIfInBounds_toArray, List.set_cons_zero, List.set_cons_succ])))); (refine sure_nil ?_))
                intro w' hS'
                (try simp only [List.getElem_toArray, List.getElem_cons_succ, List.getElem_cons_zero, Act.put, List.setIfInBounds_toArray, List.set_cons_zero, List.set_cons_succ])
                go_roundw
                case rel =>
                  (repeat apply Exists.intro)
                  refine ⟨⟨t + 1 + (hi - lo) / 5, by omega, by omega, rfl, hlr2.out, b_step hb10 hS'⟩, ?_⟩
                  rfl
                case measure => simp [intOf]; omega
              · have hnm : ¬ LL.MayTurn p q k now := fun hM => hcr (hMayf.out hM t ht0 hle)
                have hres := hno.out hnm
                replace hres := Lib.hid hres
                clear hnm
                go_wp2_with (go_at_call 43; go_loud (refine (impl_FlyRest_c q B d k t now _ (hS8.mono (by repeat' (first | with_reducible exact Below.refl _ _ | with_reducible assumption | with_reducible refine b_alloc ?_ _ | with_reducible refine b_drewN ?_ _ | with_reducible refine b_drew ?_ | with_reducible refine b_set ?_ (by first | (simp only [World.size_setCell, World.size_alloc, World.size_drew]; omega) | (simp; done) | (simp; omega)) _ | with_reducible refine b_step ?_ (by with_reducible assumption))))).mono ?_); intro e w9 hM; go_loud (rw [LL.restM_no hcr, decide_eq_false hcr] at hM); obtain ⟨A9, c9, rfl, hO9, -, hB9⟩ := hM.gop2)
                go_ret
                exact ⟨(by rw [hres.out]; rfl), b_alloc (b_step (b_step hb8 hbq) hB9) _⟩
            · have hcl : LL.CanRest q k lo now := hlr.out (by omega)
              by_cases hcr : LL.CanRest q k hi now
              · have hM := hMayt.out (by omega) hcl hcr
                have hres := hyes.out hM
                clear hM
                have hb10 := b_step hb8 hbq
                have kP10 := kP8.b hbq
                have kQ10 := kQ8.b hbq
                have hlo9 : LL.CanRest q k hi now := hcr
                go_upto_region 17 with fail
                refine rel_tailf_b 12 [10] [(7, fun v W => ∃ A9 c9, v = .tuple #[.agg #[.int .i64 (LL.rsP q k hi now).q, .int .i64 (LL.rsP q k hi now).s, .slice A9 (LL.rsP q k hi now).steps.length c9, .int .i64 (LL.rsP q k hi now).fr, .int .i64 (LL.rsP q k hi now).by_], .bool true]), (11, fun v w' => ∃ g, v = .pointer (some ⟨g, 0, none⟩) ∧ wr.heap.size ≤ g ∧ Blk w' g #[.int .i64 0, .int .i64 0, .slice none 0 0, .int .i64 0, .int .i64 0] 43)] (by kernel_rfl) (by kernel_rfl) (by intro d9 v9 c9 a9 w9 h9; cases d9 <;> exact h9) ?_
                simp only [List.take_succ_cons, List.take_zero, List.drop_succ_cons, List.drop_zero]
                iterate 7 ((apply rel_plain (hR := rfl) (hF := fun _ => trivial) (hg := rfl)); (focus ((intro w' hL'); (obtain ⟨hcS, hfS, hlS⟩ := bcell hL'); (try simp only [World.size_setCell, World.size_alloc, World.size_drew] at hcS hfS hlS); (go_simp); (try go_bits); (try (first | (rw [if_pos (by omega)]; done) | (rw [if_neg (by omega)]; done) | (rw [if_pos (by omega)]; go_simp) | (rw [if_neg (by omega)]; go_simp))); (first | with_reducible rfl | exact rfl | skip))); (simp only [Act.put, List.setIfInBounds_toArray, List.set_cons_zero, List.set_cons_succ]))
                ((apply rel_told (hR := rfl) (hg := rfl)); (focus ((intro w' hL' hD'); (obtain ⟨hcS, hfS, hlS⟩ := bcell hL'); (try simp only [World.size_setCell, World.size_alloc, World.size_drew] at hcS hfS hlS); (go_simp); (try go_bits); (try (first | (rw [if_pos (by omega)]; done) | (rw [if_neg (by omega)]; done) | (rw [if_pos (by omega)]; go_simp) | (rw [if_neg (by omega)]; go_simp))); ((go_at_call 43); (refine (impl_FlyRest_c q B d k hi now _ (hS8.mono (b_step hbq hL'))).mono ?_); (intro e w'' hM); (rw [LL.restM_yes hlo9, decide_eq_true hlo9] at hM); (obtain ⟨A2x, c2x, rfl, hO2x, -, hBx⟩ := hM.gop2); (refine ⟨_, rfl, hBx, ?_⟩); ((repeat (first | (refine Tell.hit rfl ?_) | (refine Tell.skip rfl ?_))); exact ⟨A2x, c2x, rfl⟩)))); (intro v' w0' hv'); (replace hv' := Tell.out hv' rfl); (obtain ⟨A10, c10, rfl⟩ := hv'); (simp only [Act.put, List.setIfInBounds_toArray, List.set_cons_zero, List.set_cons_succ]))
                iterate 3 ((apply rel_plain (hR := rfl) (hF := fun _ => trivial) (hg := rfl)); (focus ((intro w' hL'); (obtain ⟨hcS, hfS, hlS⟩ := bcell hL'); (try simp only [World.size_setCell, World.size_alloc, World.size_drew] at hcS hfS hlS); (go_simp); (try go_bits); (try (first | (rw [if_pos (by omega)]; done) | (rw [if_neg (by omega)]; done) | (rw [if_pos (by omega)]; go_simp) | (rw [if_neg (by omega)]; go_simp))); (first | with_reducible rfl | exact rfl | skip))); (simp only [Act.put, List.setIfInBounds_toArray, List.set_cons_zero, List.set_cons_succ]))
                ((apply rel_told (hR := rfl) (hg := rfl)); (focus ((intro w' hL' hD'); (obtain ⟨hcS, hfS, hlS⟩ := bcell hL'); (try simp only [World.size_setCell, World.size_alloc, World.size_drew] at hcS hfS hlS); (go_simp); (try go_bits); (try (first | (rw [if_pos (by omega)]; done) | (rw [if_neg (by omega)]; done) | (rw [if_pos (by omega)]; go_simp) | (rw [if_neg (by omega)]; go_simp))); (refine ⟨b_alloc (Below.refl _ _) _, ?_⟩; ((repeat (first | (refine Tell.hit rfl ?_) | (refine Tell.skip rfl ?_))); exact ⟨_, rfl, hL'.size, Blk.new _ _ _⟩)))); (intro v' w0' hv'); (replace hv' := Tell.out hv' rfl); (obtain ⟨bq, rfl, hgw, -⟩ := hv'); (simp only [Act.put, List.setIfInBounds_toArray, List.set_cons_zero, List.set_cons_succ]))
                refine rel_nil ?_
                intro W12 hE hF9
                obtain ⟨wu, hlu, g', hg', -, kG⟩ := Known.out (hF9 11) rfl
                cases hg'
                have kG12 := kG.b hlu
                obtain ⟨e2, f2, l2⟩ := kG12.cells
                have kP11 := kP10.b hE
                have kQ11 := kQ10.b hE
                have hb11 := b_step hb10 hE
                have lr8 := kP10.cells.2.2
                have hbq2 : w.heap.size ≤ bq := by have := hb10.size; omega
                have lQ10 := blk_lt kQ10.at_
                clear hF9 hlu kG hc hf hl hE
                go_wp2
                go_roundw
                case rel => exact ⟨k + 1, true, rfl, by go_num, by omega, hres, (by repeat' (first | with_reducible assumption | with_reducible exact Blk.new _ _ _ | with_reducible exact Blk.new' _ _ (by first | (simp only [World.size_alloc, World.size_setCell, World.size_drew]; done) | (simp only [World.size_alloc, World.size_setCell, World.size_drew]; omega) | omega) | with_reducible refine Blk.a ?_ _ | with_reducible refine Blk.d ?_ | with_reducible refine Blk.dN ?_ _ | with_reducible refine Blk.s ?_ (by simp only [ne_eq]; omega) _ | with_reducible refine Blk.b ?_ (by with_reducible assumption))), (by repeat' (first | with_reducible assumption | with_reducible exact Blk.new _ _ _ | with_reducible exact Blk.new' _ _ (by first | (simp only [World.size_alloc, World.size_setCell, World.size_drew]; done) | (simp only [World.size_alloc, World.size_setCell, World.size_drew]; omega) | omega) | with_reducible refine Blk.a ?_ _ | with_reducible refine Blk.d ?_ | with_reducible refine Blk.dN ?_ _ | with_reducible refine Blk.s ?_ (by simp only [ne_eq]; omega) _ | with_reducible refine Blk.b ?_ (by with_reducible assumption))), (by repeat' (first | with_reducible exact Below.refl _ _ | with_reducible assumption | with_reducible refine b_alloc ?_ _ | with_reducible refine b_drewN ?_ _ | with_reducible refine b_drew ?_ | with_reducible refine b_set ?_ (by first | (simp only [World.size_setCell, World.size_alloc, World.size_drew]; omega) | (simp; done) | (simp; omega)) _ | with_reducible refine b_step ?_ (by with_reducible assumption)))⟩
                case measure => simp [intOf]; omega
              · have hnm : ¬ LL.MayTurn p q k now := fun hM => hcr (hMayf.out hM hi (by omega) (Int.le_refl _))
                have hres := hno.out hnm
                replace hres := Lib.hid hres
                clear hnm
                have hb10 := b_step hb8 hbq
                have hlo9 : ¬ LL.CanRest q k hi now := hcr
                go_upto_region 17 with fail
                refine rel_tailf_b 12 [10] [(7, fun v W => ∃ A9 c9, v = .tuple #[.agg #[.int .i64 LL.p0.q, .int .i64 LL.p0.s, .slice A9 LL.p0.steps.length c9, .int .i64 LL.p0.fr, .int .i64 LL.p0.by_], .bool false]), (11, fun v w' => ∃ g, v = .pointer (some ⟨g, 0, none⟩) ∧ wr.heap.size ≤ g ∧ Blk w' g #[.int .i64 0, .int .i64 0, .slice none 0 0, .int .i64 0, .int .i64 0] 43)] (by kernel_rfl) (by kernel_rfl) (by intro d9 v9 c9 a9 w9 h9; cases d9 <;> exact h9) ?_
                simp only [List.take_succ_cons, List.take_zero, List.drop_succ_cons, List.drop_zero]
                iterate 7 ((apply rel_plain (hR := rfl) (hF := fun _ => trivial) (hg := rfl)); (focus ((intro w' hL'); (obtain ⟨hcS, hfS, hlS⟩ := bcell hL'); (try simp only [World.size_setCell, World.size_alloc, World.size_drew] at hcS hfS hlS); (go_simp); (try go_bits); (try (first | (rw [if_pos (by omega)]; done) | (rw [if_neg (by omega)]; done) | (rw [if_pos (by omega)]; go_simp) | (rw [if_neg (by omega)]; go_simp))); (first | with_reducible rfl | exact rfl | skip))); (simp only [Act.put, List.setIfInBounds_toArray, List.set_cons_zero, List.set_cons_succ]))
                ((apply rel_told (hR := rfl) (hg := rfl)); (focus ((intro w' hL' hD'); (obtain ⟨hcS, hfS, hlS⟩ := bcell hL'); (try simp only [World.size_setCell, World.size_alloc, World.size_drew] at hcS hfS hlS); (go_simp); (try go_bits); (try (first | (rw [if_pos (by omega)]; done) | (rw [if_neg (by omega)]; done) | (rw [if_pos (by omega)]; go_simp) | (rw [if_neg (by omega)]; go_simp))); ((go_at_call 43); (refine (impl_FlyRest_c q B d k hi now _ (hS8.mono (b_step hbq hL'))).mono ?_); (intro e w'' hM); (rw [LL.restM_no hlo9, decide_eq_false hlo9] at hM); (obtain ⟨A2x, c2x, rfl, hO2x, -, hBx⟩ := hM.gop2); (refine ⟨_, rfl, hBx, ?_⟩); ((repeat (first | (refine Tell.hit rfl ?_) | (refine Tell.skip rfl ?_))); exact ⟨A2x, c2x, rfl⟩)))); (intro v' w0' hv'); (replace hv' := Tell.out hv' rfl); (obtain ⟨A10, c10, rfl⟩ := hv'); (simp only [Act.put, List.setIfInBounds_toArray, List.set_cons_zero, List.set_cons_succ]))
                iterate 3 ((apply rel_plain (hR := rfl) (hF := fun _ => trivial) (hg := rfl)); (focus ((intro w' hL'); (obtain ⟨hcS, hfS, hlS⟩ := bcell hL'); (try simp only [World.size_setCell, World.size_alloc, World.size_drew] at hcS hfS hlS); (go_simp); (try go_bits); (try (first | (rw [if_pos (by omega)]; done) | (rw [if_neg (by omega)]; done) | (rw [if_pos (by omega)]; go_simp) | (rw [if_neg (by omega)]; go_simp))); (first | with_reducible rfl | exact rfl | skip))); (simp only [Act.put, List.setIfInBounds_toArray, List.set_cons_zero, List.set_cons_succ]))
                ((apply rel_told (hR := rfl) (hg := rfl)); (focus ((intro w' hL' hD'); (obtain ⟨hcS, hfS, hlS⟩ := bcell hL'); (try simp only [World.size_setCell, World.size_alloc, World.size_drew] at hcS hfS hlS); (go_simp); (try go_bits); (try (first | (rw [if_pos (by omega)]; done) | (rw [if_neg (by omega)]; done) | (rw [if_pos (by omega)]; go_simp) | (rw [if_neg (by omega)]; go_simp))); (refine ⟨b_alloc (Below.refl _ _) _, ?_⟩; ((repeat (first | (refine Tell.hit rfl ?_) | (refine Tell.skip rfl ?_))); exact ⟨_, rfl, hL'.size, Blk.new _ _ _⟩)))); (intro v' w0' hv'); (replace hv' := Tell.out hv' rfl); (obtain ⟨bq, rfl, hgw, -⟩ := hv'); (simp only [Act.put, List.setIfInBounds_toArray, List.set_cons_zero, List.set_cons_succ]))
                refine rel_nil ?_
                intro W12 hE hF9
                obtain ⟨wu, hlu, g', hg', -, kG⟩ := Known.out (hF9 11) rfl
                cases hg'
                have kG12 := kG.b hlu
                obtain ⟨e2, f2, l2⟩ := kG12.cells
                have hb11 := b_step hb10 hE
                have hbq2 : w.heap.size ≤ bq := by have := hb10.size; omega
                clear hF9 hlu kG hc hf hl hE
                go_wp2
                go_ret
                exact ⟨(by rw [hres.out]; rfl), (by repeat' (first | with_reducible exact Below.refl _ _ | with_reducible assumption | with_reducible refine b_alloc ?_ _ | with_reducible refine b_drewN ?_ _ | with_reducible refine b_drew ?_ | with_reducible refine b_set ?_ (by first | (simp only [World.size_setCell, World.size_alloc, World.size_drew]; omega) | (simp; done) | (simp; omega)) _ | with_reducible refine b_step ?_ (by with_reducible assumption)))⟩
      · have hnm : ¬ LL.MayTurn p q k now := fun hM => hC hM.1
        have hres := hno.out hnm
        replace hres := Lib.hid hres
        clear hyes hno hnm
        go_upto_region 9 with (first | (go_at_call 45; go_loud (refine (impl_FlySeen_c p A c k now _ (by exact Rd.mono (by with_reducible assumption) (by repeat' (first | with_reducible exact Below.refl _ _ | with_reducible assumption | with_reducible refine b_alloc ?_ _ | with_reducible refine b_drewN ?_ _ | with_reducible refine b_drew ?_ | with_reducible refine b_set ?_ (by first | (simp only [World.size_setCell, World.size_alloc, World.size_drew]; omega) | (simp; done) | (simp; omega)) _ | with_reducible refine b_step ?_ (by with_reducible assumption))))).mono ?_); intro e w5 hM; go_loud (rw [LL.seenM_no hC, decide_eq_false hC] at hM); obtain ⟨A5, c5, rfl, hO5, -, hB5⟩ := hM.gop2; have hS5 := hO5.rd_at' stepE; obtain ⟨hc5, hf5, hl5⟩ := bcell hB5; have hz5 := hB5.size; have yw5_0 : w.heap.size < w5.heap.size := (by omega); have yw5_1 : w.heap.size + 1 < w5.heap.size := (by omega)) | (go_at_call 24; go_loud (refine (impl_FlySpans_c LL.p0 A5 c5 _ (by exact Rd.mono (by with_reducible assumption) (by repeat' (first | with_reducible exact Below.refl _ _ | with_reducible assumption | with_reducible refine b_alloc ?_ _ | with_reducible refine b_drewN ?_ _ | with_reducible refine b_drew ?_ | with_reducible refine b_set ?_ (by first | (simp only [World.size_setCell, World.size_alloc, World.size_drew]; omega) | (simp; done) | (simp; omega)) _ | with_reducible refine b_step ?_ (by with_reducible assumption))))).mono ?_); intro e w6 hM; go_loud (rw [LL.spansM_no LL.p0_noY, decide_eq_false LL.p0_noY] at hM); obtain ⟨A6, c6, e9, hO6, -, hB6⟩ := hM.go2 spanE; rw [List.length_nil] at e9 hO6; subst e9; have hL6 := hO6.rd_at' spanE; obtain ⟨hc6, hf6, hl6⟩ := bcell hB6; have hz6 := hB6.size; (try simp only [World.size_alloc] at hz6); have yw6_0 : w.heap.size < w6.heap.size := (by omega); have yw6_1 : w.heap.size + 1 < w6.heap.size := (by omega); have yw6_2 : w5.heap.size < w6.heap.size := (by omega)))
        by_cases hsh : (LL.shared p q : Int) ≤ k
        · go_wp2_with (go_at_call 56; go_loud (refine (impl_FlyShared_c p q A B c d _ (by exact Rd.mono (by with_reducible assumption) (by repeat' (first | with_reducible exact Below.refl _ _ | with_reducible assumption | with_reducible refine b_alloc ?_ _ | with_reducible refine b_drewN ?_ _ | with_reducible refine b_drew ?_ | with_reducible refine b_set ?_ (by first | (simp only [World.size_setCell, World.size_alloc, World.size_drew]; omega) | (simp; done) | (simp; omega)) _ | with_reducible refine b_step ?_ (by with_reducible assumption)))) (by exact Rd.mono (by with_reducible assumption) (by repeat' (first | with_reducible exact Below.refl _ _ | with_reducible assumption | with_reducible refine b_alloc ?_ _ | with_reducible refine b_drewN ?_ _ | with_reducible refine b_drew ?_ | with_reducible refine b_set ?_ (by first | (simp only [World.size_setCell, World.size_alloc, World.size_drew]; omega) | (simp; done) | (simp; omega)) _ | with_reducible refine b_step ?_ (by with_reducible assumption))))).mono ?_); rintro e w7 ⟨rfl, hB7⟩; obtain ⟨hc7, hf7, hl7⟩ := bcell hB7; have hz7 := hB7.size; (try simp only [World.size_alloc] at hz7); have yw7_0 : w.heap.size < w7.heap.size := (by omega); have yw7_1 : w.heap.size + 1 < w7.heap.size := (by omega); have yw7_2 : w5.heap.size < w7.heap.size := (by omega))
          all_goals go_ret
          all_goals exact ⟨(by rw [hres.out]; rfl), (by repeat' (first | with_reducible exact Below.refl _ _ | with_reducible assumption | with_reducible refine b_alloc ?_ _ | with_reducible refine b_drewN ?_ _ | with_reducible refine b_drew ?_ | with_reducible refine b_set ?_ (by first | (simp only [World.size_setCell, World.size_alloc, World.size_drew]; omega) | (simp; done) | (simp; omega)) _ | with_reducible refine b_step ?_ (by with_reducible assumption)))⟩
        · go_wp2_with (go_at_call 56; go_loud (refine (impl_FlyShared_c p q A B c d _ (by exact Rd.mono (by with_reducible assumption) (by repeat' (first | with_reducible exact Below.refl _ _ | with_reducible assumption | with_reducible refine b_alloc ?_ _ | with_reducible refine b_drewN ?_ _ | with_reducible refine b_drew ?_ | with_reducible refine b_set ?_ (by first | (simp only [World.size_setCell, World.size_alloc, World.size_drew]; omega) | (simp; done) | (simp; omega)) _ | with_reducible refine b_step ?_ (by with_reducible assumption)))) (by exact Rd.mono (by with_reducible assumption) (by repeat' (first | with_reducible exact Below.refl _ _ | with_reducible assumption | with_reducible refine b_alloc ?_ _ | with_reducible refine b_drewN ?_ _ | with_reducible refine b_drew ?_ | with_reducible refine b_set ?_ (by first | (simp only [World.size_setCell, World.size_alloc, World.size_drew]; omega) | (simp; done) | (simp; omega)) _ | with_reducible refine b_step ?_ (by with_reducible assumption))))).mono ?_); rintro e w7 ⟨rfl, hB7⟩; obtain ⟨hc7, hf7, hl7⟩ := bcell hB7; have hz7 := hB7.size; (try simp only [World.size_alloc] at hz7); have yw7_0 : w.heap.size < w7.heap.size := (by omega); have yw7_1 : w.heap.size + 1 < w7.heap.size := (by omega); have yw7_2 : w5.heap.size < w7.heap.size := (by omega))
          all_goals go_ret
          all_goals exact ⟨(by rw [hres.out]; rfl), (by repeat' (first | with_reducible exact Below.refl _ _ | with_reducible assumption | with_reducible refine b_alloc ?_ _ | with_reducible refine b_drewN ?_ _ | with_reducible refine b_drew ?_ | with_reducible refine b_set ?_ (by first | (simp only [World.size_setCell, World.size_alloc, World.size_drew]; omega) | (simp; done) | (simp; omega)) _ | with_reducible refine b_step ?_ (by with_reducible assumption)))⟩
    · obtain rfl : k = ts.length := by omega
      have hend := hs.out.trans (LL.allTo_end (s := sb) (Nat.le_refl _))
      replace hend := Lib.hid hend
      go_wp2
      go_ret
      exact ⟨(by rw [hend.out]; rfl), (by repeat' (first | with_reducible exact Below.refl _ _ | with_reducible assumption | with_reducible refine b_alloc ?_ _ | with_reducible refine b_drewN ?_ _ | with_reducible refine b_drew ?_ | with_reducible refine b_set ?_ (by first | (simp only [World.size_setCell, World.size_alloc, World.size_drew]; omega) | (simp; done) | (simp; omega)) _ | with_reducible refine b_step ?_ (by with_reducible assumption)))⟩
end Go.Proofs.Ytpeojnknfonmlaa
