/- The engine for drawn regions whose calls ask a reader up to forty times each. -/
import Derived.Test.YtpeojnknfonmlaaHB
set_option linter.unusedVariables false
namespace Go.Proofs.Ytpeojnknfonmlaa
open Go.RowKit
/-- a later world in which the reader may be asked j times more -/
def BG3 (t : TypeId) (g K : Nat) (w : World) (j : Nat) (w' : World) : Prop := LeG g w w' ∧ ∃ M, M + 40 * j ≤ K ∧ Rdr t w' g M
section
variable {P : Program} {ops : Array Oper} {md : Region.Mode}
theorem rel3_tail_b {t : TypeId} {g N : Nat} {id : Nat} {Q : Exit → Act → World → Prop} {a : Act} {w : World} {l : List Oper} (n : Nat) (T : Tell2) (hr : Rdr t w g N) (hm : P.follows .mixedOrders = true) (hB : Region.lexTailB .any l.toArray n = true)
    (h : RelAll2 P l.toArray .any (LeG g) (BG3 t g (N + 40 * n) w) T.sh T.at_ T.is (fun a' F => ∀ w', LeG g w w' → Rdr t w' g (N + 40 * n) → (∀ d, F d w') → wpList P l.toArray Q (l.drop n) a' w') 0 (l.take n) a (fun _ _ => True)) : (Code.region id l.toArray true).wp P Q a w := by
  simp only [Region.lexTailB, Bool.and_eq_true, decide_eq_true_eq] at hB
  obtain ⟨⟨⟨⟨hsel, hn⟩, hs⟩, hc⟩, hlex⟩ := hB
  have hn' : n < l.length := by simpa using hn
  have htl : (l.take n).length = n := by simp; omega
  have hdl : (l.drop n).length = l.toArray.size - n := by simp
  have inv0 : HeadInv .any l.toArray n (Array.replicate l.toArray.size false) :=
    ⟨by simp, fun j oj _ hl => (by rw [getD_replicate_false] at hl; cases hl), fun t _ ht => getD_in (by simpa using ht) (getD_replicate_false _ _)⟩
  have b0 : BG3 t g (N + 40 * n) w n w.drew := ⟨gr_drew (GrownS.refl _ _), N, Nat.le_refl _, hr.d⟩
  have H := rel_to_GR2 (Le := LeG g) (B := BG3 t g (N + 40 * n) w) (n := n) (L := fun listed a F => Region.seqB .any l.toArray (l.toArray.size - n) n listed = true ∧ ∀ w', LeG g w w' → Rdr t w' g (N + 40 * n) → (∀ d, F d w') → wpList P l.toArray Q (l.drop n) a w') (Lq := fun a' F => ∀ w', LeG g w w' → Rdr t w' g (N + 40 * n) → (∀ d, F d w') → wpList P l.toArray Q (l.drop n) a' w')
    ⟨_, _, b0⟩ hsel (HeadInv .any l.toArray n) (fun _ _ hi hj hjn => hi.set hj hjn)
    (fun listed i hi hin hun j hj => by
      rcases Nat.lt_or_ge j n with h2 | h2
      · exact h2
      · exact absurd hj (tail_waits hs hc hn hi _ i rfl hin hun j h2)) (fun listed a F hL => seqB_ready hL.1)
    (Region.lexHead .any l.toArray (l.toArray.size - n)) (fun f k listed h => by simp only [Region.lexHead, Bool.and_eq_true] at h; exact ⟨h.1.1, h.1.2, h.2⟩) (fun k listed a F hk h hq => ⟨by subst hk; simpa [Region.lexHead] using h, hq⟩)
    (l.take n) 0 (Array.replicate l.toArray.size false) a (fun _ _ => True) (fun j hj => by
      have hj' : j < n := by rw [htl] at hj; exact hj
      simp [hj']) (by simpa using htl) inv0 (by rw [htl]; exact hlex) h
  refine wp_region_any hm ?_
  have := GR2.any (Le := LeG g) (B := BG3 t g (N + 40 * n) w) (Q := Q) (g := l.toArray.size - n) (fun _ _ _ h1 h2 => GrownS.trans h1 h2) (fun a => GrownS.refl a _) (fun j w' ⟨h1, M, h2, h3⟩ => ⟨h1, M, by omega, h3⟩) (fun listed a' F w' hL hb hF => by
    obtain ⟨h1, M, h2, h3⟩ := hb
    have := wpAny_of_seq (md := .any) (Q' := Q) (l.drop n) n listed a' w' (fun j => by simp [List.getElem?_drop]) (by rw [hdl]; exact hL.1) (hL.2 w' h1 (h3.up (by omega)) hF)
    rwa [hdl] at this) _ _ _ _ _ (fun _ _ _ _ _ => trivial) H (by rw [htl]; exact b0) (fun _ => trivial)
  rw [htl, show n + (l.toArray.size - n) = l.toArray.size by omega] at this
  exact this
/-! the steps of a walk -/
variable {t : TypeId} {g K : Nat} {T : Tell2} {w : World} {k : Nat} {o : Oper} {l : List Oper} {a : Act} {F : Facts}
theorem rel3_plain {L : World → Act → Prop} (v : Value) (hR : T.is k = false) (hF : ∀ w, F k w) (hg : Region.wanted o (yielded ops a.tmps) = true) (h : ∀ w', LeG g w w' → (execOp a.eval o).run P w' = .ok (.value v) w')
    (hl : RelAll2 P ops md (LeG g) (BG3 t g K w) T.sh T.at_ T.is (fun a' F => ∀ w', LeG g w w' → Rdr t w' g K → (∀ d, F d w') → L w' a') (k + 1) l (a.put o.dst v) F) : RelAll2 P ops md (LeG g) (BG3 t g K w) T.sh T.at_ T.is (fun a' F => ∀ w', LeG g w w' → Rdr t w' g K → (∀ d, F d w') → L w' a') k (o :: l) a F :=
  .inl ⟨hR, v, .inl ⟨hg, fun j w hb => h w hb.1⟩, RelAll2.weaker (fun a F F' hF h w' hb hr hd => h w' hb hr fun d => hF d w' (hd d)) _ _ _ _ _ (fun d w hd => by
    unfold setF at hd; split at hd
    · rename_i e; subst e; exact hF w
    · exact hd) hl⟩
theorem rel3_deps {L : World → Act → Prop} (v : Value) (hR : T.is k = false) (hg : Region.wanted o (yielded ops a.tmps) = true) (h : ∀ w', LeG g w w' → (execOp a.eval o).run P w' = .ok (.value v) w')
    (hl : RelAll2 P ops md (LeG g) (BG3 t g K w) T.sh T.at_ T.is (fun a' F => ∀ w', LeG g w w' → Rdr t w' g K → (∀ d, F d w') → L w' a') (k + 1) l (a.put o.dst v) (setF F k (Deps md F o))) : RelAll2 P ops md (LeG g) (BG3 t g K w) T.sh T.at_ T.is (fun a' F => ∀ w', LeG g w w' → Rdr t w' g K → (∀ d, F d w') → L w' a') k (o :: l) a F :=
  .inl ⟨hR, v, .inl ⟨hg, fun j w hb => h w hb.1⟩, hl⟩
theorem rel3_told {L : World → Act → Prop} (hR : T.is k = true) (hg : Region.wanted o (yielded ops a.tmps) = true) (hs : ∃ v, T.sh k v) (h : ∀ w' M, LeG g w w' → Rdr t w' g M → M + 40 ≤ K → Deps md F o w' → Ran2 (LeG g) P (fun v w'' => (T.sh k v ∧ T.at_ k v w'') ∧ Rdr t w'' g (M + 40)) w' ((execOp a.eval o).run P w'))
    (hl : ∀ v, T.sh k v → RelAll2 P ops md (LeG g) (BG3 t g K w) T.sh T.at_ T.is (fun a' F => ∀ w', LeG g w w' → Rdr t w' g K → (∀ d, F d w') → L w' a') (k + 1) l (a.put o.dst v) (setF F k (Known2 (LeG g) T.at_ md F k o v))) : RelAll2 P ops md (LeG g) (BG3 t g K w) T.sh T.at_ T.is (fun a' F => ∀ w', LeG g w w' → Rdr t w' g K → (∀ d, F d w') → L w' a') k (o :: l) a F :=
  .inr ⟨hR, ⟨hg, hs, fun j w1 hb hd => by
    obtain ⟨h1, M, h2, h3⟩ := hb
    have := h w1 M h1 h3 (by omega) hd
    generalize (execOp a.eval o).run P w1 = r at *
    match r, this with
    | .ok (.value u) w', h4 => exact ⟨h4.1, h4.2.1.1, ⟨h1.trans h4.1, M + 40, by omega, h4.2.2⟩, h4.2.1.2⟩
    | .ok (.enter f args) w', h4 => exact Calls.mono h4 fun e w'' ⟨v, he, hl, hφ⟩ => ⟨v, he, hl, hφ.1.1, ⟨h1.trans hl, M + 40, by omega, hφ.2⟩, hφ.1.2⟩⟩, hl⟩
theorem rel3_nil {L : World → Act → Prop} (h : ∀ w', LeG g w w' → Rdr t w' g K → (∀ d, F d w') → L w' a) : RelAll2 P ops md (LeG g) (BG3 t g K w) T.sh T.at_ T.is (fun a' F => ∀ w', LeG g w w' → Rdr t w' g K → (∀ d, F d w') → L w' a') k [] a F := h
end
end Go.Proofs.Ytpeojnknfonmlaa
