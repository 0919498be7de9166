/- Books for the laws: what a call has made, marked, asked again. -/
import Derived.Test.YtkpnjnkfbhomgaaBM
import Derived.Test.YtkpnjnkfbhomgaaB6
import Derived.Test.YtkpnjnkfbhomgaaJD
set_option linter.unusedVariables false
set_option linter.unusedSimpArgs false
namespace Go.Proofs.Ytkpnjnkfbhomgaa
open Go.RowKit
attribute [local go_sem] w_lt_add w_le_of w_le_add max2_i min2_i
/-- an own book of this content -/
structure OwnB (w : World) (hs : List LL.Hd) (vs : List LL.He) (A : Option Addr) (c : Nat) : Prop where
  o : OwnBk w A c vs
  e : vs.map LL.He.m = hs
section
variable {w w' : World} {hs : List LL.Hd} {vs us : List LL.He} {A A' : Option Addr} {c c' : Nat} {S : Nat → Prop}
theorem OwnB.b (h : OwnB w hs vs A c) (hb : Below w.heap.size w w') : OwnB w' hs vs A c := ⟨h.o.b hb, h.e⟩
theorem OwnB.gS (h : OwnB w hs vs A c) (hg : GrownS w w' S) (hd : ∀ j, FpBk A c vs j → ¬ S j) : OwnB w' hs vs A c := ⟨h.o.gS hg hd, h.e⟩
theorem OwnB.lt (h : OwnB w hs vs A c) : ∀ j, FpBk A c vs j → j < w.heap.size := h.o.lt
theorem OwnB.neB {g : Nat} {cs : Array Value} {t : TypeId} (h : OwnB w hs vs A c) (hB : Blk w g cs t) (h1 : 146 ≠ t) (h2 : 97 ≠ t) : ∀ k, FpBk A c vs k → k ≠ g := fun k hk => by
  rcases hk with hk | ⟨u, hu, hk⟩
  · exact h.o.row.neB hB h2 k hk
  · rcases hk with hk | hk
    · exact (h.o.el u hu).p.neB hB h1 k hk
    · exact (h.o.el u hu).n.neB hB h1 k hk
theorem MkB.go {last : Int} {en : Ending} (h : MkB w last hs en w') : ∃ vs A' c', en = .returned (.agg #[.int .i64 last, .slice A' vs.length c']) ∧ OwnB w' hs vs A' c' ∧ (∀ j, FpBk A' c' vs j → w.heap.size ≤ j) ∧ Below w.heap.size w w' := by
  obtain ⟨vs, A', c', e, rfl, hO, hg, hb⟩ := h
  exact ⟨vs, A', c', rfl, ⟨hO, e⟩, hg, hb⟩
end
namespace LL
/-- what the contents weigh -/
def wtD (hs : List Hd) : Int := hs.foldr (fun h r => (h.name.size + h.p.steps.length + h.n.steps.length : Int) + r) 0
theorem wtD_cons (h : Hd) (hs : List Hd) : wtD (h :: hs) = (h.name.size + h.p.steps.length + h.n.steps.length : Int) + wtD hs := rfl
theorem wtD_nonneg (hs : List Hd) : 0 ≤ wtD hs := by
  induction hs with
  | nil => exact Int.le_refl _
  | cons h hs ih => rw [wtD_cons]; omega
theorem wtD_append (a b : List Hd) : wtD (a ++ b) = wtD a + wtD b := by
  induction a with
  | nil => simp [wtD]
  | cons h a ih => rw [List.cons_append, wtD_cons, wtD_cons, ih]; omega
theorem wtHeS_take (us : List He) : ∀ k, k ≤ us.length → wtHeS us k = wtD ((us.map He.m).take k)
  | 0, _ => by simp [wtHeS, wtD]
  | k + 1, h => by
    rw [wtHeS, wtHeS_take us k (by omega), List.take_add_one, wtD_append]
    have : (us.map He.m)[k]?.toList = [(nthH us k).m] := by rw [List.getElem?_map, List.getElem?_eq_getElem (by omega)]; simp [nthH_get (show k < us.length by omega)]
    rw [this, wtD_cons, show wtD [] = 0 from rfl]
    simp only [wtHe, He.m]
    omega
theorem wtHeS_all (us : List He) : wtHeS us us.length = wtD (us.map He.m) := by rw [wtHeS_take us _ (Nat.le_refl _), List.take_of_length_le (by simp)]
theorem kAtHe_le (us : List He) (k : Int) : ∀ j, kAtHe us k j ≤ k + 18 * (j + wtHeS us j)
  | 0 => by simp [kAtHe, wtHeS]
  | j + 1 => by
    have := kAtHe_le us k j
    have h2 := endHe_eq (kAtHe us k j) (nthH us j)
    simp only [kAtHe, wtHeS, wtHe]
    omega
theorem kAtHe_ge (us : List He) (k : Int) (j : Nat) : k ≤ kAtHe us k j := by
  have := kAtHe_mono us k 0 j
  rwa [Nat.zero_add] at this
/-- where the count of marks ends -/
theorem kAt_book {vs : List He} {hs : List Hd} (he : vs.map He.m = hs) (k : Int) : k ≤ kAtHe vs k vs.length ∧ kAtHe vs k vs.length ≤ k + 18 * (hs.length + wtD hs) := by
  have h1 := kAtHe_le vs k vs.length
  rw [wtHeS_all, he] at h1
  have h2 : hs.length = vs.length := by rw [← he]; simp
  exact ⟨kAtHe_ge _ _ _, by rw [h2]; exact h1⟩
end LL
set_option maxRecDepth 100000 in
theorem markLinkBook_c (last : Int) (us : List LL.He) (A : Option Addr) (c : Nat) (k : Int) (h0 : 0 ≤ k) (h1 : LL.kAtHe us k us.length ≤ 1125899906842624) (w : World) (hO : OwnBk w A c us) : Calls Try.prog 24 #[.agg #[.int .i64 last, .slice A us.length c], .int .i64 k] w fun e w' => e = .returned (.int .i64 (LL.kAtHe us k us.length)) ∧ OwnBk w' A c (LL.mkHeS us k) ∧ GrownS w w' (FpBk A c us) := by
  go_enter Try.func24, Try.ntmps24
  go_wp2_with fail
  refine calls_name (fun W => Below w.heap.size w W) (by repeat' (first | with_reducible exact Below.refl _ _ | with_reducible assumption | with_reducible refine b_alloc ?_ _ | with_reducible refine b_drewN ?_ _ | with_reducible refine b_drew ?_ | with_reducible refine b_set ?_ (by first | (simp only [World.size_setCell, World.size_alloc, World.size_drew]; omega) | (simp; done) | (simp; omega)) _ | with_reducible refine b_step ?_ (by with_reducible assumption))) ?_
  intro W1 hb
  refine (markLinkHeldS_c us A c k h0 h1 _ (hO.b hb)).mono ?_
  rintro e W2 ⟨rfl, hO2, hg⟩
  go_wp2_with fail
  go_ret
  exact ⟨rfl, hO2, (GrownS.below hb).trans hg⟩
set_option maxRecDepth 100000 in
theorem heldLinkBook_c (last : Int) (us : List LL.He) (A : Option Addr) (c : Nat) (k : Int) (h0 : 0 ≤ k) (h1 : LL.kAtHe us k us.length ≤ 1125899906842624) (w : World) (h : RdBk w A c (LL.mkHeS us k)) : Calls Try.prog 31 #[.agg #[.int .i64 last, .slice A us.length c], .int .i64 k] w fun e w' => e = .returned (.int .i64 (LL.kAtHe us k us.length)) ∧ Below w.heap.size w w' := by
  have hge := LL.kAtHe_ge us k us.length
  go_enter Try.func31, Try.ntmps31
  go_wp2_with fail
  refine calls_name (fun W => Below w.heap.size w W) (by repeat' (first | with_reducible exact Below.refl _ _ | with_reducible assumption | with_reducible refine b_alloc ?_ _ | with_reducible refine b_drewN ?_ _ | with_reducible refine b_drew ?_ | with_reducible refine b_set ?_ (by first | (simp only [World.size_setCell, World.size_alloc, World.size_drew]; omega) | (simp; done) | (simp; omega)) _ | with_reducible refine b_step ?_ (by with_reducible assumption))) ?_
  intro W1 hb
  refine (heldLinkHeldS_c us A c k h0 h1 _ (h.mono hb)).mono ?_
  rintro e W2 ⟨rfl, hB⟩
  replace hb := b_step hb hB
  clear hB
  go_wp2_with fail
  go_ret
  exact ⟨rfl, (by repeat' (first | with_reducible exact Below.refl _ _ | with_reducible assumption | with_reducible refine b_alloc ?_ _ | with_reducible refine b_drewN ?_ _ | with_reducible refine b_drew ?_ | with_reducible refine b_set ?_ (by first | (simp only [World.size_setCell, World.size_alloc, World.size_drew]; omega) | (simp; done) | (simp; omega)) _ | with_reducible refine b_step ?_ (by with_reducible assumption)))⟩
/-- two own books of one content -/
theorem eqBk_c (last : Int) (hs : List LL.Hd) (us vs : List LL.He) (A A' : Option Addr) (c c' : Nat) (w : World) (h : OwnB w hs us A c) (h' : OwnB w hs vs A' c') : Calls Try.prog 20 #[.agg #[.int .i64 last, .slice A us.length c], .agg #[.int .i64 last, .slice A' vs.length c']] w fun e w' => e = .returned (.bool true) ∧ Below w.heap.size w w' := eqBook_c last us vs A A' c c' w (h'.e.trans h.e.symm) h.o.rd h'.o.rd
end Go.Proofs.Ytkpnjnkfbhomgaa
