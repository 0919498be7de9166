/- A flight that goes on: FlyGo of the program and of the reference. -/
import Derived.Test.YtpeojnknfonmlaaJ9
import Derived.Test.YtpeojnknfonmlaaL1
import Derived.Test.YtpeojnknfonmlaaJ7
set_option linter.unusedVariables false
set_option linter.unusedSimpArgs false
namespace Go.Proofs.Ytpeojnknfonmlaa
open Go.RowKit
attribute [local go_sem] w_lt_add w_le_of w_le_add max2_i min2_i ite_max ite_min
namespace LL
def pick (p : Path) (f asked : List Int) (i : Nat) : Int := if i < asked.length then min (max (nthI asked i) (nextLo p f)) (nextHi p f) else nextLo p f
theorem pick_lt {p : Path} {f asked : List Int} {i : Nat} (h : i < asked.length) : pick p f asked i = min (max (nthI asked i) (nextLo p f)) (nextHi p f) := if_pos h
theorem pick_ge {p : Path} {f asked : List Int} {i : Nat} (h : ¬ i < asked.length) : pick p f asked i = nextLo p f := if_neg h
def goF (p : Path) (asked : List Int) : Nat → List Int → Nat → Option (List Int)
  | 0, out, _ => some out
  | m + 1, out, i => if CanNext p out then goF p asked m (out ++ [pick p out asked i]) (i + 1) else none
def fin (p : Path) : Option (List Int) → Option (List Int)
  | some out => if Lawful p out then some out else none
  | none => none
/-- from a flight of which so much is there -/
def goTo (p : Path) (asked out : List Int) (i : Nat) : Option (List Int) := fin p (goF p asked (p.steps.length + 1 - out.length) out i)
def goM (p : Path) (f asked : List Int) : Option (List Int) := if PathOk p then goTo p asked f 0 else none
def goL (p : Path) (f asked : List Int) : List Int := (goM p f asked).getD []
def goB (p : Path) (f asked : List Int) : Bool := (goM p f asked).isSome
section
variable {p : Path} {f asked out : List Int} {i : Nat}
theorem goM_ok (h : PathOk p) : goM p f asked = goTo p asked f 0 := if_pos h
theorem goM_no (h : ¬ PathOk p) : goM p f asked = none := if_neg h
theorem goTo_on (h : out.length ≤ p.steps.length) (hC : CanNext p out) : goTo p asked out i = goTo p asked (out ++ [pick p out asked i]) (i + 1) := by
  unfold goTo
  rw [show p.steps.length + 1 - out.length = (p.steps.length + 1 - (out ++ [pick p out asked i]).length) + 1 by simp; omega, goF, if_pos hC]
theorem goTo_no (h : out.length ≤ p.steps.length) (hC : ¬ CanNext p out) : goTo p asked out i = none := by
  unfold goTo
  rw [show p.steps.length + 1 - out.length = (p.steps.length - out.length) + 1 by omega, goF, if_neg hC]; rfl
theorem goTo_yes (h : p.steps.length < out.length) (hL : Lawful p out) : goTo p asked out i = some out := by
  unfold goTo
  rw [show p.steps.length + 1 - out.length = 0 by omega]; exact if_pos hL
theorem goTo_bad (h : p.steps.length < out.length) (hL : ¬ Lawful p out) : goTo p asked out i = none := by
  unfold goTo
  rw [show p.steps.length + 1 - out.length = 0 by omega]; exact if_neg hL
theorem goF_len {p : Path} {asked : List Int} : ∀ (m : Nat) (out : List Int) (i : Nat) (r : List Int), goF p asked m out i = some r → r.length = out.length + m
  | 0, out, i, r, h => by injection h with h; rw [h]; rfl
  | m + 1, out, i, r, h => by
    rw [goF] at h
    split at h
    · have := goF_len m _ _ _ h; simp at this; omega
    · cases h
theorem goL_len {N : Int} (h : (f.length : Int) ≤ N ∧ (p.steps.length : Int) + 1 ≤ N) : ((goL p f asked).length : Int) ≤ N := by
  unfold goL goM
  split
  · unfold goTo
    cases hG : goF p asked (p.steps.length + 1 - f.length) f 0 with
    | none => simp only [fin, Option.getD_none, List.length_nil]; omega
    | some r =>
      have := goF_len _ _ _ _ hG
      show ((((if Lawful p r then some r else none) : Option (List Int)).getD []).length : Int) ≤ N
      split
      · simp only [Option.getD_some]; omega
      · simp only [Option.getD_none, List.length_nil]; omega
  · simp only [Option.getD_none, List.length_nil]; omega
theorem goL_none (h : goM p f asked = none) : goL p f asked = [] := by unfold goL; rw [h]; rfl
theorem goB_none (h : goM p f asked = none) : goB p f asked = false := by unfold goB; rw [h]; rfl
theorem goL_some (h : goM p f asked = some out) : goL p f asked = out := by unfold goL; rw [h]; rfl
theorem goB_some (h : goM p f asked = some out) : goB p f asked = true := by unfold goB; rw [h]; rfl
end
end LL
theorem mk2_nil {w w' : World} {p : LL.Path} {f asked : List Int} {e : Nat} (hN : LL.goM p f asked = none) (hb : Below w.heap.size w w') : Mk2 intC 1 8 e w (LL.goL p f asked) (LL.goB p f asked) (.returned (.tuple #[.slice none 0 0, .bool false])) w' := by
  rw [LL.goL_none hN]
  exact mk2_mk ⟨World.ownsRow_nil _ _ _ _, by simp⟩ (LL.goB_none hN).symm (fun k hk => by simp [Value.ownBlock] at hk) hb
theorem mk2_new {w W : World} {p : LL.Path} {f asked : List Int} {e g : Nat} (hN : LL.goM p f asked = none) (hg : g = W.heap.size) (hb : Below w.heap.size w W) : Mk2 intC 1 8 e w (LL.goL p f asked) (LL.goB p f asked) (.returned (.tuple #[.slice (some ⟨g, 0, none⟩) 0 0, .bool false])) (W.alloc (.cells #[] e)) := by
  subst hg
  rw [LL.goL_none hN]
  exact mk2_mk (Own.made' rfl) (LL.goB_none hN).symm (fun k hk => by simp [Value.ownBlock] at hk; have := hb.size; omega) (b_alloc hb _)
set_option maxRecDepth 100000 in
set_option maxHeartbeats 4000000 in
theorem spec_FlyGo_c (p : LL.Path) (f asked : List Int) (A F G : Option Addr) (c m m2 : Nat) (w : World) (h : RdS w A p.steps.length c p.steps) (hF : RdI w F f.length m f) (hG : RdI w G asked.length m2 asked) : Calls Try.prog 50 #[.agg #[.int .i64 p.q, .int .i64 p.s, .slice A p.steps.length c, .int .i64 p.fr, .int .i64 p.by_], .slice F f.length m, .slice G asked.length m2] w (Mk2 intC 1 8 3 w (LL.goL p f asked) (LL.goB p f asked)) := by
  have hroom := h.room
  have hroom' := hF.room
  have hroom2 := hG.room
  go_enter Try.func50, Try.ntmps50
  go_wp2_with (at_builtin; go_loud (refine wp_appA (bytes := 8) (e := 3) rfl _ _ _ rfl intE (.int .i64 0) Try.underlying49 (by kernel_rfl) rfl (by decide) (v := .slice (some ⟨w.heap.size + 1, 0, none⟩) 0 0) (xs := []) rfl (Own.made' (by simp)) rfl (hF.mono (by repeat' (first | with_reducible exact Below.refl _ _ | with_reducible assumption | with_reducible refine b_alloc ?_ _ | with_reducible refine b_drewN ?_ _ | with_reducible refine b_drew ?_ | with_reducible refine b_set ?_ (by first | (simp only [World.size_setCell, World.size_alloc, World.size_drew]; omega) | (simp; done) | (simp; omega)) _ | with_reducible refine b_step ?_ (by with_reducible assumption)))) (by simpa using hroom') ?_); intro v7 w7 hO7 hg7 hat7; rw [List.nil_append] at hO7; obtain ⟨A0, c0, rfl, -⟩ := hO7.rd intE; have kP7 := ((Blk.new w #[.int .i64 p.q, .int .i64 p.s, .slice A p.steps.length c, .int .i64 p.fr, .int .i64 p.by_] 43).a _).grown hg7 (by simp [Value.ownBlock]); obtain ⟨eP7, fP7, lP7⟩ := kP7.cells)
  have hO2 : ∀ k, Value.ownBlock (.slice A0 f.length c0) = some k → w.heap.size < k := fun k hk => by rcases hat7 with h9 | h9 <;> (rw [h9] at hk; simp [Value.ownBlock] at hk; omega)
  refine calls_name (fun W => Below w.heap.size w W ∧ Blk W w.heap.size #[.int .i64 p.q, .int .i64 p.s, .slice A p.steps.length c, .int .i64 p.fr, .int .i64 p.by_] 43 ∧ Own intC 1 8 3 W (.slice A0 f.length c0) f) ⟨b_grown' (w := w) (by repeat' (first | with_reducible exact Below.refl _ _ | with_reducible assumption | with_reducible refine b_alloc ?_ _ | with_reducible refine b_drewN ?_ _ | with_reducible refine b_drew ?_ | with_reducible refine b_set ?_ (by first | (simp only [World.size_setCell, World.size_alloc, World.size_drew]; omega) | (simp; done) | (simp; omega)) _ | with_reducible refine b_step ?_ (by with_reducible assumption))) hg7 (by simp only [World.size_alloc]; omega) (fun g' hg' => by simp [Value.ownBlock] at hg'; omega), kP7, hO7⟩ ?_
  clear hO7 hg7 hat7 kP7 eP7 fP7 lP7
  rintro W1 ⟨hb, kP, hO⟩
  refine (spec_FlyPathOk_c p A c _ (h.mono hb)).mono ?_
  rintro e W2 ⟨rfl, hB⟩
  replace hb := b_step hb hB; replace kP := kP.b hB; replace hO := hO.b hB; clear hB
  by_cases hP : LL.PathOk p
  · rw [decide_eq_true hP]
    have hl40 := hP.2.1.2
    by_cases hlen : f.length ≤ p.steps.length + 1
    · obtain ⟨ekP, fkP, lkP⟩ := kP.cells
      go_wp2_with fail
      clear ekP fkP lkP
      go_loopw [8, 9] (fun o i wr => ∃ (xs : List Int) (Ao : Option Addr) (co : Nat) (j : Nat), o = .slice Ao xs.length co ∧ i = .int .i64 j ∧ j ≤ xs.length ∧ LL.Same (LL.goM p f asked) (LL.goTo p asked xs j) ∧ Own intC 1 8 3 wr (.slice Ao xs.length co) xs ∧ (∀ k, Value.ownBlock (.slice Ao xs.length co) = some k → w.heap.size < k) ∧ Below w.heap.size w wr ∧ Blk wr w.heap.size #[.int .i64 p.q, .int .i64 p.s, .slice A p.steps.length c, .int .i64 p.fr, .int .i64 p.by_] 43) (fun _ i _ => 42 - (intOf i).toNat)
      case atStart => exact ⟨f, A0, c0, 0, rfl, rfl, Nat.zero_le _, LL.goM_ok hP, hO, hO2, hb, kP⟩
      case round =>
        clear hb kP hO hO2
        obtain ⟨xs, Ao, co, j, rfl, rfl, hj, hs, hO, hO2, hb, kP⟩ := hrel
        have hroomx := hO.room
        by_cases hlt : xs.length ≤ p.steps.length
        · obtain ⟨ekP, fkP, lkP⟩ := kP.cells
          go_wp2_with fail
          refine calls_name (fun W => Below wr.heap.size wr W) (by repeat' (first | with_reducible exact Below.refl _ _ | with_reducible assumption | with_reducible refine b_alloc ?_ _ | with_reducible refine b_drewN ?_ _ | with_reducible refine b_drew ?_ | with_reducible refine b_set ?_ (by first | (simp only [World.size_setCell, World.size_alloc, World.size_drew]; omega) | (simp; done) | (simp; omega)) _ | with_reducible refine b_step ?_ (by with_reducible assumption))) ?_; intro W6 hE; clear ekP fkP lkP; replace hb := b_step hb hE; replace kP := kP.b hE; replace hO := hO.b hE; clear hE
          refine (spec_FlyNext_c p xs A Ao c co _ (h.mono hb) (hO.rd_at' intE)).mono ?_
          rintro e W7 ⟨rfl, hB⟩
          replace hb := b_step hb hB; replace kP := kP.b hB; replace hO := hO.b hB; clear hB
          have hz7 := hb.size
          have hOl := fun k hk => (hO.row.lt k hk).2
          have kPl := kP.cells.2.2
          by_cases hC : LL.CanNext p xs
          · rw [decide_eq_true hC]
            have hgo := hs.trans (LL.goTo_on (i := j) hlt hC)
            by_cases hja : j < asked.length
            · rw [LL.pick_lt hja] at hgo
              generalize LL.nextLo p xs = lw at *
              generalize LL.nextHi p xs = hw at *
              obtain ⟨b2, off2, rfl, hbw2⟩ := hG.addr (by omega)
              have ca := hG.S1 j hja
              go_wp2_with fail
              refine wp_name (fun W => Below W7.heap.size W7 W ∧ Blk W W7.heap.size #[.int .i64 lw, .int .i64 hw] 60) ⟨(by repeat' (first | with_reducible exact Below.refl _ _ | with_reducible assumption | with_reducible refine b_alloc ?_ _ | with_reducible refine b_drewN ?_ _ | with_reducible refine b_drew ?_ | with_reducible refine b_set ?_ (by first | (simp only [World.size_setCell, World.size_alloc, World.size_drew]; omega) | (simp; done) | (simp; omega)) _ | with_reducible refine b_step ?_ (by with_reducible assumption))), Blk.new _ _ _⟩ ?_
              rintro W8 ⟨hE, kX⟩
              replace hb := b_step hb hE; replace kP := kP.b hE; replace hO := hO.b hE; clear hE
              obtain ⟨gc, gf, gl⟩ := bcell hb
              obtain ⟨ekX, fkX, lkX⟩ := kX.cells
              ((refine calm_b (by kernel_rfl) (by kernel_rfl) ?_); (repeat (first | ((apply sure_cons (hg := rfl)); (focus ((intro w' hS'); (obtain ⟨hcS, hfS, hlS⟩ := bcell hS'); (try simp only [World.size_setCell, World.size_alloc, World.size_drew] at hS' hcS hfS hlS); (go_simp); (try go_bits); (try ((first | rw [if_pos (by omega)] | rw [if_neg (by omega)]); go_simp)); (first | (with_reducible rfl) | (with_reducible exact rfl) | (with_reducible exact ⟨rfl, hS'⟩) | (first | (go_at_call 87; go_loud (refine (spec_l1Max_c _ _ _).mono ?_); rintro e w'' ⟨rfl, hb⟩; (first | (subst hb; exact ⟨rfl, hS'⟩) | exact ⟨rfl, b_to hS' hb (by first | exact Nat.le_refl _ | (have h1 := hS'.size; (try simp only [World.size_setCell, World.size_alloc, World.size_drew] at h1); omega))⟩)) | (go_at_call 88; go_loud (refine (spec_l1Min_c _ _ _).mono ?_); rintro e w'' ⟨rfl, hb⟩; (first | (subst hb; exact ⟨rfl, hS'⟩) | exact ⟨rfl, b_to hS' hb (by first | exact Nat.le_refl _ | (have h1 := hS'.size; (try simp only [World.size_setCell, World.size_alloc, World.size_drew] at h1); omega))⟩)))))); (simp only [Act.put, List.setIfInBounds_toArray, List.set_cons_zero, List.set_cons_succ])) | ((apply sure_off (hg := rfl)); (simp only [Act.put, List.setIfInBounds_toArray, List.set_cons_zero, List.set_cons_succ])))); (refine sure_nil ?_))
              intro W9 hS9
              clear ekX fkX lkX
              clear gc gf gl
              replace hb := b_step hb hS9; replace kP := kP.b hS9; replace hO := hO.b hS9; clear hS9
              have hz9 := hb.size
              generalize ht : min (max lw (LL.nthI asked j)) hw = t
              have Ht := Lib.hid ht
              clear ht
              have hOl := fun k hk => (hO.row.lt k hk).2
              have kPl := kP.cells.2.2
              go_wp2_with ((at_builtin; go_loud (refine wp_app (bytes := 8) (e := 3) rfl _ _ _ rfl intE (.int .i64 0) Try.underlying49 (by kernel_rfl) rfl (by decide) (v := (.slice Ao xs.length co)) rfl (hO.a _) rfl (Rd.one (x := t) (Blk.new' _ _ (by simp)) rfl (by decide)) (by omega) ?_); intro v7 w7 hO7 hg7 hat7); obtain ⟨A7, c7, rfl, -⟩ := hO7.rd intE)
              have hz := hg7.size
              (try simp only [World.size_alloc] at hz hat7)
              go_roundw
              case rel =>
                refine ⟨xs ++ [t], A7, c7, j + 1, by simp, by go_num, by simp; omega, hgo.trans (by rw [← Ht.out]; rw [Int.max_comm]), hO7, fun k hk => own_two (m := 0) hat7 hk (fun k => w.heap.size < k) hO2 (by omega), b_grown' (w := w) (by repeat' (first | with_reducible exact Below.refl _ _ | with_reducible assumption | with_reducible refine b_alloc ?_ _ | with_reducible refine b_drewN ?_ _ | with_reducible refine b_drew ?_ | with_reducible refine b_set ?_ (by first | (simp only [World.size_setCell, World.size_alloc, World.size_drew]; omega) | (simp; done) | (simp; omega)) _ | with_reducible refine b_step ?_ (by with_reducible assumption))) hg7 (by simp only [World.size_alloc]; omega) (fun g' hg' => by have := hO2 _ hg'; omega), (kP.a _).grown hg7 (fun e9 => by have := hO2 _ e9; omega)⟩
              case measure => simp [intOf]; omega
            · rw [LL.pick_ge hja] at hgo
              generalize LL.nextLo p xs = lw at *
              generalize LL.nextHi p xs = hw at *
              go_wp2_with ((at_builtin; go_loud (refine wp_app (bytes := 8) (e := 3) rfl _ _ _ rfl intE (.int .i64 0) Try.underlying49 (by kernel_rfl) rfl (by decide) (v := (.slice Ao xs.length co)) rfl ((hO.a _).a _) rfl (Rd.one (x := lw) (Blk.new' _ _ (by simp)) rfl (by decide)) (by omega) ?_); intro v7 w7 hO7 hg7 hat7); obtain ⟨A7, c7, rfl, -⟩ := hO7.rd intE)
              have hz := hg7.size
              (try simp only [World.size_alloc] at hz hat7)
              go_roundw
              case rel =>
                refine ⟨xs ++ [lw], A7, c7, j + 1, by simp, by go_num, by simp; omega, hgo, hO7, fun k hk => own_two (m := 0) hat7 hk (fun k => w.heap.size < k) hO2 (by omega), b_grown' (w := w) (by repeat' (first | with_reducible exact Below.refl _ _ | with_reducible assumption | with_reducible refine b_alloc ?_ _ | with_reducible refine b_drewN ?_ _ | with_reducible refine b_drew ?_ | with_reducible refine b_set ?_ (by first | (simp only [World.size_setCell, World.size_alloc, World.size_drew]; omega) | (simp; done) | (simp; omega)) _ | with_reducible refine b_step ?_ (by with_reducible assumption))) hg7 (by simp only [World.size_alloc]; omega) (fun g' hg' => by have := hO2 _ hg'; omega), ((kP.a _).a _).grown hg7 (fun e9 => by have := hO2 _ e9; omega)⟩
              case measure => simp [intOf]; omega
          · have hN := hs.out.trans (LL.goTo_no hlt hC)
            have HN := Lib.hid hN
            clear hN
            rw [decide_eq_false hC]
            go_wp2_with fail
            go_ret2
            exact mk2_new HN.out (by first | rfl | simp) (by repeat' (first | with_reducible exact Below.refl _ _ | with_reducible assumption | with_reducible refine b_alloc ?_ _ | with_reducible refine b_drewN ?_ _ | with_reducible refine b_drew ?_ | with_reducible refine b_set ?_ (by first | (simp only [World.size_setCell, World.size_alloc, World.size_drew]; omega) | (simp; done) | (simp; omega)) _ | with_reducible refine b_step ?_ (by with_reducible assumption)))
        · obtain ⟨ekP, fkP, lkP⟩ := kP.cells
          go_wp2_with fail
          refine calls_name (fun W => Below wr.heap.size wr W) (by repeat' (first | with_reducible exact Below.refl _ _ | with_reducible assumption | with_reducible refine b_alloc ?_ _ | with_reducible refine b_drewN ?_ _ | with_reducible refine b_drew ?_ | with_reducible refine b_set ?_ (by first | (simp only [World.size_setCell, World.size_alloc, World.size_drew]; omega) | (simp; done) | (simp; omega)) _ | with_reducible refine b_step ?_ (by with_reducible assumption))) ?_; intro W6 hE; clear ekP fkP lkP; replace hb := b_step hb hE; replace kP := kP.b hE; replace hO := hO.b hE; clear hE
          refine (spec_FlyLawful_c p xs A Ao c co _ (h.mono hb) (hO.rd_at' intE)).mono ?_
          rintro e W7 ⟨rfl, hB⟩
          replace hb := b_step hb hB; replace kP := kP.b hB; replace hO := hO.b hB; clear hB
          by_cases hL : LL.Lawful p xs
          · have hN := hs.out.trans (LL.goTo_yes (by omega) hL)
            have HN := Lib.hid hN
            clear hN
            rw [decide_eq_true hL]
            go_wp2_with fail
            go_ret2
            have hN := HN.out
            rw [LL.goL_some hN, LL.goB_some hN]
            exact ⟨_, rfl, hO, fun k hk => by have := hO2 k hk; omega, hb⟩
          · have hN := hs.out.trans (LL.goTo_bad (by omega) hL)
            have HN := Lib.hid hN
            clear hN
            rw [decide_eq_false hL]
            go_wp2_with fail
            go_ret2
            exact mk2_new HN.out (by first | rfl | simp) (by repeat' (first | with_reducible exact Below.refl _ _ | with_reducible assumption | with_reducible refine b_alloc ?_ _ | with_reducible refine b_drewN ?_ _ | with_reducible refine b_drew ?_ | with_reducible refine b_set ?_ (by first | (simp only [World.size_setCell, World.size_alloc, World.size_drew]; omega) | (simp; done) | (simp; omega)) _ | with_reducible refine b_step ?_ (by with_reducible assumption)))
    · have hN : LL.goM p f asked = none := by rw [LL.goM_ok hP]; exact LL.goTo_bad (by omega) (fun h9 => by have := h9.2.1; omega)
      have HN := Lib.hid hN
      clear hN
      obtain ⟨ekP, fkP, lkP⟩ := kP.cells
      go_wp2_with fail
      go_ret2
      exact mk2_new HN.out (by first | rfl | simp) (by repeat' (first | with_reducible exact Below.refl _ _ | with_reducible assumption | with_reducible refine b_alloc ?_ _ | with_reducible refine b_drewN ?_ _ | with_reducible refine b_drew ?_ | with_reducible refine b_set ?_ (by first | (simp only [World.size_setCell, World.size_alloc, World.size_drew]; omega) | (simp; done) | (simp; omega)) _ | with_reducible refine b_step ?_ (by with_reducible assumption)))
  · have hN : LL.goM p f asked = none := LL.goM_no hP
    have HN := Lib.hid hN
    clear hN
    rw [decide_eq_false hP]
    go_wp2_with fail
    go_ret2
    exact mk2_new HN.out (by first | rfl | simp) (by repeat' (first | with_reducible exact Below.refl _ _ | with_reducible assumption | with_reducible refine b_alloc ?_ _ | with_reducible refine b_drewN ?_ _ | with_reducible refine b_drew ?_ | with_reducible refine b_set ?_ (by first | (simp only [World.size_setCell, World.size_alloc, World.size_drew]; omega) | (simp; done) | (simp; omega)) _ | with_reducible refine b_step ?_ (by with_reducible assumption)))
set_option maxRecDepth 100000 in
set_option maxHeartbeats 4000000 in
theorem impl_FlyGo_c (p : LL.Path) (f asked : List Int) (A F G : Option Addr) (c m m2 : Nat) (w : World) (h : RdS w A p.steps.length c p.steps) (hF : RdI w F f.length m f) (hG : RdI w G asked.length m2 asked) : Calls Try.prog 41 #[.agg #[.int .i64 p.q, .int .i64 p.s, .slice A p.steps.length c, .int .i64 p.fr, .int .i64 p.by_], .slice F f.length m, .slice G asked.length m2] w (Mk2 intC 1 8 3 w (LL.goL p f asked) (LL.goB p f asked)) := by
  have hroom := h.room
  have hroom' := hF.room
  have hroom2 := hG.room
  go_enter Try.func41, Try.ntmps41
  go_wp2_with fail
  refine calls_name (fun W => Below w.heap.size w W ∧ Blk W w.heap.size #[.int .i64 p.q, .int .i64 p.s, .slice A p.steps.length c, .int .i64 p.fr, .int .i64 p.by_] 43) ⟨(by repeat' (first | with_reducible exact Below.refl _ _ | with_reducible assumption | with_reducible refine b_alloc ?_ _ | with_reducible refine b_drewN ?_ _ | with_reducible refine b_drew ?_ | with_reducible refine b_set ?_ (by first | (simp only [World.size_setCell, World.size_alloc, World.size_drew]; omega) | (simp; done) | (simp; omega)) _ | with_reducible refine b_step ?_ (by with_reducible assumption))), (by repeat' (first | with_reducible assumption | with_reducible exact Blk.new _ _ _ | with_reducible exact Blk.new' _ _ (by first | (simp only [World.size_alloc, World.size_setCell, World.size_drew]; done) | (simp only [World.size_alloc, World.size_setCell, World.size_drew]; omega) | omega) | with_reducible refine Blk.a ?_ _ | with_reducible refine Blk.d ?_ | with_reducible refine Blk.dN ?_ _ | with_reducible refine Blk.s ?_ (by simp only [ne_eq]; omega) _ | with_reducible refine Blk.b ?_ (by with_reducible assumption)))⟩ ?_
  rintro W1 ⟨hb, kP⟩
  refine (impl_FlyPathOk_c p A c _ (h.mono hb)).mono ?_
  rintro e W2 ⟨rfl, hB⟩
  replace hb := b_step hb hB; replace kP := kP.b hB; clear hB
  by_cases hP : LL.PathOk p
  · rw [decide_eq_true hP]
    have hl40 := hP.2.1.2
    have hW2 := kP.cells.2.2
    go_wp2_with (at_builtin; go_loud (refine wp_appA (bytes := 8) (e := 3) rfl _ _ _ rfl intE (.int .i64 0) Try.underlying49 (by kernel_rfl) rfl (by decide) (v := .slice (some ⟨W2.heap.size, 0, none⟩) 0 0) (xs := []) rfl (Own.made' (by simp)) rfl (hF.mono (by repeat' (first | with_reducible exact Below.refl _ _ | with_reducible assumption | with_reducible refine b_alloc ?_ _ | with_reducible refine b_drewN ?_ _ | with_reducible refine b_drew ?_ | with_reducible refine b_set ?_ (by first | (simp only [World.size_setCell, World.size_alloc, World.size_drew]; omega) | (simp; done) | (simp; omega)) _ | with_reducible refine b_step ?_ (by with_reducible assumption)))) (by simpa using hroom') ?_); intro v7 w7 hO7 hg7 hat7; rw [List.nil_append] at hO7; obtain ⟨A0, c0, rfl, -⟩ := hO7.rd intE)
    have hO2 : ∀ k, Value.ownBlock (.slice A0 f.length c0) = some k → w.heap.size < k := fun k hk => by rcases hat7 with h9 | h9 <;> (rw [h9] at hk; simp [Value.ownBlock] at hk; omega)
    refine wp_name (fun W => Below w.heap.size w W ∧ Blk W w.heap.size #[.int .i64 p.q, .int .i64 p.s, .slice A p.steps.length c, .int .i64 p.fr, .int .i64 p.by_] 43 ∧ Own intC 1 8 3 W (.slice A0 f.length c0) f) ⟨b_grown' (w := w) (by repeat' (first | with_reducible exact Below.refl _ _ | with_reducible assumption | with_reducible refine b_alloc ?_ _ | with_reducible refine b_drewN ?_ _ | with_reducible refine b_drew ?_ | with_reducible refine b_set ?_ (by first | (simp only [World.size_setCell, World.size_alloc, World.size_drew]; omega) | (simp; done) | (simp; omega)) _ | with_reducible refine b_step ?_ (by with_reducible assumption))) hg7 (by simp only [World.size_alloc]; omega) (fun g' hg' => by simp [Value.ownBlock] at hg'; omega), (kP.a _).grown hg7 (by simp [Value.ownBlock]; omega), hO7⟩ ?_
    clear hb kP hO7 hg7 hat7
    rintro W3 ⟨hb, kP, hO⟩
    go_loopw [8, 9] (fun o i wr => ∃ (xs : List Int) (Ao : Option Addr) (co : Nat) (j : Nat), o = .slice Ao xs.length co ∧ i = .int .i64 j ∧ j ≤ xs.length ∧ LL.Same (LL.goM p f asked) (LL.goTo p asked xs j) ∧ Own intC 1 8 3 wr (.slice Ao xs.length co) xs ∧ (∀ k, Value.ownBlock (.slice Ao xs.length co) = some k → w.heap.size < k) ∧ Below w.heap.size w wr ∧ Blk wr w.heap.size #[.int .i64 p.q, .int .i64 p.s, .slice A p.steps.length c, .int .i64 p.fr, .int .i64 p.by_] 43) (fun _ i _ => 42 - (intOf i).toNat)
    case atStart => exact ⟨f, A0, c0, 0, rfl, rfl, Nat.zero_le _, LL.goM_ok hP, hO, hO2, hb, kP⟩
    case round =>
      clear hb kP hO hO2
      obtain ⟨xs, Ao, co, j, rfl, rfl, hj, hs, hO, hO2, hb, kP⟩ := hrel
      have hroomx := hO.room
      by_cases hlt : xs.length ≤ p.steps.length
      · obtain ⟨ekP, fkP, lkP⟩ := kP.cells
        go_wp2_with fail
        refine calls_name (fun W => Below wr.heap.size wr W) (by repeat' (first | with_reducible exact Below.refl _ _ | with_reducible assumption | with_reducible refine b_alloc ?_ _ | with_reducible refine b_drewN ?_ _ | with_reducible refine b_drew ?_ | with_reducible refine b_set ?_ (by first | (simp only [World.size_setCell, World.size_alloc, World.size_drew]; omega) | (simp; done) | (simp; omega)) _ | with_reducible refine b_step ?_ (by with_reducible assumption))) ?_; intro W6 hE; clear ekP fkP lkP; replace hb := b_step hb hE; replace kP := kP.b hE; replace hO := hO.b hE; clear hE
        refine (impl_FlyNext_c p xs A Ao c co _ (h.mono hb) (hO.rd_at' intE)).mono ?_
        rintro e W7 ⟨rfl, hB⟩
        replace hb := b_step hb hB; replace kP := kP.b hB; replace hO := hO.b hB; clear hB
        have hz7 := hb.size
        have hOl := fun k hk => (hO.row.lt k hk).2
        have kPl := kP.cells.2.2
        by_cases hC : LL.CanNext p xs
        · rw [decide_eq_true hC]
          have hgo := hs.trans (LL.goTo_on (i := j) hlt hC)
          by_cases hja : j < asked.length
          · rw [LL.pick_lt hja] at hgo
            generalize LL.nextLo p xs = lw at *
            generalize LL.nextHi p xs = hw at *
            obtain ⟨b2, off2, rfl, hbw2⟩ := hG.addr (by omega)
            have ca := hG.S1 j hja
            go_wp2_with fail
            refine wp_name (fun W => Below W7.heap.size W7 W ∧ Blk W W7.heap.size #[.int .i64 lw, .int .i64 hw] 60) ⟨(by repeat' (first | with_reducible exact Below.refl _ _ | with_reducible assumption | with_reducible refine b_alloc ?_ _ | with_reducible refine b_drewN ?_ _ | with_reducible refine b_drew ?_ | with_reducible refine b_set ?_ (by first | (simp only [World.size_setCell, World.size_alloc, World.size_drew]; omega) | (simp; done) | (simp; omega)) _ | with_reducible refine b_step ?_ (by with_reducible assumption))), Blk.new _ _ _⟩ ?_
            rintro W8 ⟨hE, kX⟩
            replace hb := b_step hb hE; replace kP := kP.b hE; replace hO := hO.b hE; clear hE
            obtain ⟨gc, gf, gl⟩ := bcell hb
            obtain ⟨ekX, fkX, lkX⟩ := kX.cells
            ((refine calm_b (by kernel_rfl) (by kernel_rfl) ?_); (repeat (first | ((apply sure_cons (hg := rfl)); (focus ((intro w' hS'); (obtain ⟨hcS, hfS, hlS⟩ := bcell hS'); (try simp only [World.size_setCell, World.size_alloc, World.size_drew] at hS' hcS hfS hlS); (go_simp); (try go_bits); (try ((first | rw [if_pos (by omega)] | rw [if_neg (by omega)]); go_simp)); (first | (with_reducible rfl) | (with_reducible exact rfl) | (with_reducible exact ⟨rfl, hS'⟩) | fail))); (simp only [Act.put, List.setIfInBounds_toArray, List.set_cons_zero, List.set_cons_succ])) | ((apply sure_off (hg := rfl)); (simp only [Act.put, List.setIfInBounds_toArray, List.set_cons_zero, List.set_cons_succ])))); (refine sure_nil ?_))
            intro W9 hS9
            clear ekX fkX lkX
            clear gc gf gl
            replace hb := b_step hb hS9; replace kP := kP.b hS9; replace hO := hO.b hS9; clear hS9
            have hz9 := hb.size
            generalize ht : min hw (max (LL.nthI asked j) lw) = t
            have Ht := Lib.hid ht
            clear ht
            have hOl := fun k hk => (hO.row.lt k hk).2
            have kPl := kP.cells.2.2
            go_wp2_with ((at_builtin; go_loud (refine wp_app (bytes := 8) (e := 3) rfl _ _ _ rfl intE (.int .i64 0) Try.underlying49 (by kernel_rfl) rfl (by decide) (v := (.slice Ao xs.length co)) rfl (hO.a _) rfl (Rd.one (x := t) (Blk.new' _ _ (by simp)) rfl (by decide)) (by omega) ?_); intro v7 w7 hO7 hg7 hat7); obtain ⟨A7, c7, rfl, -⟩ := hO7.rd intE)
            have hz := hg7.size
            (try simp only [World.size_alloc] at hz hat7)
            go_roundw
            case rel =>
              refine ⟨xs ++ [t], A7, c7, j + 1, by simp, by go_num, by simp; omega, hgo.trans (by rw [← Ht.out]; rw [Int.min_comm]), hO7, fun k hk => own_two (m := 0) hat7 hk (fun k => w.heap.size < k) hO2 (by omega), b_grown' (w := w) (by repeat' (first | with_reducible exact Below.refl _ _ | with_reducible assumption | with_reducible refine b_alloc ?_ _ | with_reducible refine b_drewN ?_ _ | with_reducible refine b_drew ?_ | with_reducible refine b_set ?_ (by first | (simp only [World.size_setCell, World.size_alloc, World.size_drew]; omega) | (simp; done) | (simp; omega)) _ | with_reducible refine b_step ?_ (by with_reducible assumption))) hg7 (by simp only [World.size_alloc]; omega) (fun g' hg' => by have := hO2 _ hg'; omega), (kP.a _).grown hg7 (fun e9 => by have := hO2 _ e9; omega)⟩
            case measure => simp [intOf]; omega
          · rw [LL.pick_ge hja] at hgo
            generalize LL.nextLo p xs = lw at *
            generalize LL.nextHi p xs = hw at *
            go_wp2_with ((at_builtin; go_loud (refine wp_app (bytes := 8) (e := 3) rfl _ _ _ rfl intE (.int .i64 0) Try.underlying49 (by kernel_rfl) rfl (by decide) (v := (.slice Ao xs.length co)) rfl ((hO.a _).a _) rfl (Rd.one (x := lw) (Blk.new' _ _ (by simp)) rfl (by decide)) (by omega) ?_); intro v7 w7 hO7 hg7 hat7); obtain ⟨A7, c7, rfl, -⟩ := hO7.rd intE)
            have hz := hg7.size
            (try simp only [World.size_alloc] at hz hat7)
            go_roundw
            case rel =>
              refine ⟨xs ++ [lw], A7, c7, j + 1, by simp, by go_num, by simp; omega, hgo, hO7, fun k hk => own_two (m := 0) hat7 hk (fun k => w.heap.size < k) hO2 (by omega), b_grown' (w := w) (by repeat' (first | with_reducible exact Below.refl _ _ | with_reducible assumption | with_reducible refine b_alloc ?_ _ | with_reducible refine b_drewN ?_ _ | with_reducible refine b_drew ?_ | with_reducible refine b_set ?_ (by first | (simp only [World.size_setCell, World.size_alloc, World.size_drew]; omega) | (simp; done) | (simp; omega)) _ | with_reducible refine b_step ?_ (by with_reducible assumption))) hg7 (by simp only [World.size_alloc]; omega) (fun g' hg' => by have := hO2 _ hg'; omega), ((kP.a _).a _).grown hg7 (fun e9 => by have := hO2 _ e9; omega)⟩
            case measure => simp [intOf]; omega
        · have hN := hs.out.trans (LL.goTo_no hlt hC)
          have HN := Lib.hid hN
          clear hN
          rw [decide_eq_false hC]
          go_wp2_with fail
          go_ret2
          exact mk2_nil HN.out (by repeat' (first | with_reducible exact Below.refl _ _ | with_reducible assumption | with_reducible refine b_alloc ?_ _ | with_reducible refine b_drewN ?_ _ | with_reducible refine b_drew ?_ | with_reducible refine b_set ?_ (by first | (simp only [World.size_setCell, World.size_alloc, World.size_drew]; omega) | (simp; done) | (simp; omega)) _ | with_reducible refine b_step ?_ (by with_reducible assumption)))
      · obtain ⟨ekP, fkP, lkP⟩ := kP.cells
        go_wp2_with fail
        refine calls_name (fun W => Below wr.heap.size wr W) (by repeat' (first | with_reducible exact Below.refl _ _ | with_reducible assumption | with_reducible refine b_alloc ?_ _ | with_reducible refine b_drewN ?_ _ | with_reducible refine b_drew ?_ | with_reducible refine b_set ?_ (by first | (simp only [World.size_setCell, World.size_alloc, World.size_drew]; omega) | (simp; done) | (simp; omega)) _ | with_reducible refine b_step ?_ (by with_reducible assumption))) ?_; intro W6 hE; clear ekP fkP lkP; replace hb := b_step hb hE; replace kP := kP.b hE; replace hO := hO.b hE; clear hE
        refine (impl_FlyLawful_c p xs A Ao c co _ (h.mono hb) (hO.rd_at' intE)).mono ?_
        rintro e W7 ⟨rfl, hB⟩
        replace hb := b_step hb hB; replace kP := kP.b hB; replace hO := hO.b hB; clear hB
        by_cases hL : LL.Lawful p xs
        · have hN := hs.out.trans (LL.goTo_yes (by omega) hL)
          have HN := Lib.hid hN
          clear hN
          rw [decide_eq_true hL]
          go_wp2_with fail
          go_ret2
          have hN := HN.out
          rw [LL.goL_some hN, LL.goB_some hN]
          exact ⟨_, rfl, hO, fun k hk => by have := hO2 k hk; omega, hb⟩
        · have hN := hs.out.trans (LL.goTo_bad (by omega) hL)
          have HN := Lib.hid hN
          clear hN
          rw [decide_eq_false hL]
          go_wp2_with fail
          go_ret2
          exact mk2_nil HN.out (by repeat' (first | with_reducible exact Below.refl _ _ | with_reducible assumption | with_reducible refine b_alloc ?_ _ | with_reducible refine b_drewN ?_ _ | with_reducible refine b_drew ?_ | with_reducible refine b_set ?_ (by first | (simp only [World.size_setCell, World.size_alloc, World.size_drew]; omega) | (simp; done) | (simp; omega)) _ | with_reducible refine b_step ?_ (by with_reducible assumption)))
  · have hN : LL.goM p f asked = none := LL.goM_no hP
    have HN := Lib.hid hN
    clear hN
    rw [decide_eq_false hP]
    go_wp2_with fail
    go_ret2
    exact mk2_nil HN.out (by repeat' (first | with_reducible exact Below.refl _ _ | with_reducible assumption | with_reducible refine b_alloc ?_ _ | with_reducible refine b_drewN ?_ _ | with_reducible refine b_drew ?_ | with_reducible refine b_set ?_ (by first | (simp only [World.size_setCell, World.size_alloc, World.size_drew]; omega) | (simp; done) | (simp; omega)) _ | with_reducible refine b_step ?_ (by with_reducible assumption)))
end Go.Proofs.Ytpeojnknfonmlaa
