/- Rows of tubes: the laws' helpers for them. An element's model holds its handles as well. -/
import Derived.Test.YtkpnjnkfbhomgaaJA
import Derived.Test.YtkpnjnkfbhomgaaJ5
import Derived.Test.YtkpnjnkfbhomgaaJC
import Derived.Test.YtkpnjnkfbhomgaaJ4

set_option linter.unusedVariables false
set_option linter.unusedSimpArgs false
namespace Go.Proofs.Ytkpnjnkfbhomgaa
open Go.RowKit
attribute [local go_sem] w_lt_add w_le_of w_le_add max2_i min2_i
namespace LL
structure Tu where
  s : ByteArray
  A : Option Addr
  c : Nat
  xs : List Box
def tu0 : Tu := ⟨⟨#[]⟩, none, 0, []⟩
def nthT (l : List Tu) (k : Nat) : Tu := l.getD k tu0
/-- what the tubes are, wherever they lie -/
def md (l : List Tu) : List (ByteArray × List Box) := l.map fun u => (u.s, u.xs)
theorem nthT_mem {l : List Tu} {k : Nat} (h : k < l.length) : nthT l k ∈ l := by
  unfold nthT; rw [List.getD_eq_getElem?_getD, List.getElem?_eq_getElem h]; exact List.getElem_mem h
theorem md_len (l : List Tu) : (md l).length = l.length := by simp [md]
theorem md_at {l : List Tu} {k : Nat} (h : k < l.length) : (md l)[k]? = some ((nthT l k).s, (nthT l k).xs) := by
  unfold md nthT; rw [List.getElem?_map, List.getD_eq_getElem?_getD, List.getElem?_eq_getElem h]; rfl
theorem md_on {us ts : List Tu} {k : Nat} {u : Tu} (h : md us = (md ts).take k) (hk : k < ts.length) (h1 : u.s = (nthT ts k).s) (h2 : u.xs = (nthT ts k).xs) : md (us ++ [u]) = (md ts).take (k + 1) := by
  rw [List.take_add_one, md_at hk, ← h]; simp [md, h1, h2]
theorem md_eq {ts us : List Tu} (h : md us = md ts) (k : Nat) (hk : k < ts.length) : (nthT us k).s = (nthT ts k).s ∧ (nthT us k).xs = (nthT ts k).xs := by
  have hl : us.length = ts.length := by rw [← md_len us, h, md_len]
  have h1 := md_at hk
  rw [← h, md_at (by omega)] at h1
  injection h1 with h1
  injection h1 with h1 h2
  exact ⟨h1, h2⟩
end LL
def tuC (u : LL.Tu) : List Value := [.string u.s, .slice u.A u.xs.length u.c]
theorem tuE : EncOk tuC 2 := ⟨fun _ => rfl, fun x u hu => by simp [tuC] at hu; rcases hu with h | h <;> subst h <;> rfl, by decide⟩
structure RdT (w : World) (A : Option Addr) (n c : Nat) (ts : List LL.Tu) : Prop where
  row : Rd tuC 2 40 w A n c ts
  el : ∀ k, k < n → RdB w (LL.nthT ts k).A (LL.nthT ts k).xs.length (LL.nthT ts k).c (LL.nthT ts k).xs
theorem RdT.mono {w w' : World} {A : Option Addr} {n c : Nat} {ts : List LL.Tu} (h : RdT w A n c ts) (hb : Below w.heap.size w w') : RdT w' A n c ts := ⟨h.row.mono hb, fun k hk => (h.el k hk).mono hb⟩
theorem RdT.S2 {w : World} {b off n c : Nat} {ts : List LL.Tu} (h : RdT w (some ⟨b, off, none⟩) n c ts) (k : Nat) (hk : k < n) : w.cell? ⟨b, off + k * 2, none⟩ = some (.string (LL.nthT ts k).s) ∧ w.cell? ⟨b, off + k * 2 + 1, none⟩ = some (.slice (LL.nthT ts k).A (LL.nthT ts k).xs.length (LL.nthT ts k).c) := by
  have hc : ∀ j u, (tuC (LL.nthT ts k))[j]? = some u → _ := h.row.here LL.tu0 k hk
  exact ⟨hc 0 _ rfl, hc 1 _ rfl⟩
theorem set_mid {α : Type} (us : List α) (n : Nat) (d x : α) (h : us.length < n) : (us ++ List.replicate (n - us.length) d).set us.length x = (us ++ [x]) ++ List.replicate (n - (us ++ [x]).length) d := by
  rw [List.set_append_right _ _ (Nat.le_refl _), Nat.sub_self, show n - us.length = (n - (us ++ [x]).length) + 1 by simp; omega, List.replicate_succ, List.set_cons_zero]
  simp
/-- a call has made a row of tubes -/
def MkTS (w : World) (ts : List LL.Tu) (en : Ending) (w' : World) : Prop := ∃ ts' A' c', LL.md ts' = LL.md ts ∧ en = .returned (.slice A' ts.length c') ∧ RdT w' A' ts.length c' ts' ∧ Below w.heap.size w w'
set_option maxHeartbeats 2000000 in
theorem toProbeTubeS_c (ts : List LL.Tu) (A : Option Addr) (c : Nat) (w : World) (h : RdT w A ts.length c ts) : Calls Try.prog 13 #[.slice A ts.length c] w (MkTS w ts) := by
  have hroom := h.row.room
  go_enter Try.func13, Try.ntmps13
  go_wp2_with (at_make; (refine wp_make rfl _ _ _ rfl tuE (.agg (tuC LL.tu0).toArray) LL.tu0 Try.underlying25 (by kernel_rfl) rfl ts.length rfl rfl hroom (by decide) ?_); intro g w1 hg hO hb hgl; have hge : w.heap.size ≤ g := (by omega); clear hg)
  go_loopw [4] (fun i wr => ∃ (us : List LL.Tu), us.length ≤ ts.length ∧ i = .int .i64 us.length ∧ LL.md us = (LL.md ts).take us.length ∧ Own tuC 2 40 91 wr (.slice (some ⟨g, 0, none⟩) ts.length ts.length) (us ++ List.replicate (ts.length - us.length) LL.tu0) ∧ (∀ u ∈ us, Own boxC 6 48 133 wr (.slice u.A u.xs.length u.c) u.xs ∧ ∀ j, Value.ownBlock (.slice u.A u.xs.length u.c) = some j → g < j) ∧ Below w.heap.size w wr ∧ g < wr.heap.size) (fun i _ => ts.length - (intOf i).toNat)
  case atStart => exact ⟨[], Nat.zero_le _, rfl, rfl, by simpa using hO, (fun u hu => by cases hu), hb, hgl⟩
  case round =>
    clear hO hb hgl
    obtain ⟨us, hk, rfl, hmd, hO, hel, hb, hgl⟩ := hrel
    obtain ⟨hc, hf, hl⟩ := bcell hb
    by_cases hlt : us.length < ts.length
    · obtain ⟨b, off, rfl, hbw⟩ := h.row.addr (by omega)
      obtain ⟨c0, c1⟩ := h.S2 us.length hlt
      have hul : (us ++ List.replicate (ts.length - us.length) LL.tu0).length = ts.length := by simp; omega
      have Hul := Lib.hid hul
      clear hul
      have hset := Lib.hid (set_mid us ts.length LL.tu0)
      go_wp2_with fail
      refine (toProbeTube_c (LL.nthT ts us.length).s (LL.nthT ts us.length).xs _ _ _ ((h.el us.length hlt).mono hb)).mono ?_
      rintro e W2 ⟨A2, c2, rfl, hN, hNg, hB⟩
      have hz := hB.size
      go_wp2_with ((with_reducible refine gate_st 91 21 rfl ?_); (refine wp_put (bytes := 40) (e := 91) (cap := ts.length) 91 21 _ rfl rfl rfl tuE Hul.out us.length (⟨(LL.nthT ts us.length).s, A2, c2, (LL.nthT ts us.length).xs⟩ : LL.Tu) _ rfl rfl rfl rfl ?_ ?_ hlt ?_); (kernel_rfl); (exact hO.b hB); intro w3 hO3 hg3)
      go_roundw
      case rel =>
        rw [hset.out _ hlt] at hO3
        have hz3 := hg3.size
        refine ⟨us ++ [⟨(LL.nthT ts us.length).s, A2, c2, (LL.nthT ts us.length).xs⟩], by simp; omega, by simp, ?_, hO3, ?_, b_grown (b_step hb hB) hg3 hge, by omega⟩
        · rw [List.length_append]; exact LL.md_on hmd hlt rfl rfl
        · intro u hu
          rcases List.mem_append.1 hu with hu | hu
          · obtain ⟨h1, h2⟩ := hel u hu
            exact ⟨(h1.b hB).grown hg3 (.inr fun h9 => by have := h2 _ h9; omega), h2⟩
          · obtain rfl := List.mem_singleton.1 hu
            exact ⟨hN.grown hg3 (.inr fun h9 => by have := hNg _ h9; omega), fun j hj => by have := hNg j hj; omega⟩
      case measure => simp [intOf]; omega
    · have hkl : us.length = ts.length := by omega
      have hmd2 : LL.md us = LL.md ts := by rw [hmd, hkl, ← LL.md_len, List.take_length]
      rw [hkl, Nat.sub_self, List.replicate_zero, List.append_nil] at hO
      have hR := hO.rd_at' tuE
      go_wp2_with fail
      go_ret
      exact ⟨us, _, _, hmd2, rfl, ⟨hR, fun k hk2 => (hel _ (LL.nthT_mem (by omega))).1.rd_at' boxE⟩, hb⟩
set_option maxRecDepth 100000 in
set_option maxHeartbeats 2000000 in
theorem eqProbeTubeS_c (ts us : List LL.Tu) (A A' : Option Addr) (c c' : Nat) (w : World) (hmd : LL.md us = LL.md ts) (h : RdT w A ts.length c us) (h' : RdT w A' ts.length c' ts) : Calls Try.prog 15 #[.slice A ts.length c, .slice A' ts.length c'] w fun e w' => e = .returned (.bool true) ∧ Below w.heap.size w w' := by
  have hroom := h.row.room
  go_enter Try.func15, Try.ntmps15
  go_wp2
  go_loopw [5] (fun i wr => ∃ k : Nat, k ≤ ts.length ∧ i = .int .i64 k ∧ Below w.heap.size w wr) (fun i _ => ts.length - (intOf i).toNat)
  case atStart => exact ⟨0, Nat.zero_le _, rfl, Below.refl _ _⟩
  case round =>
    obtain ⟨k, hk, rfl, hb⟩ := hrel
    by_cases hlt : k < ts.length
    · obtain ⟨b, off, rfl, hbw⟩ := h.row.addr (by omega)
      obtain ⟨b', off', rfl, hbw'⟩ := h'.row.addr (by omega)
      obtain ⟨c0, c1⟩ := h.S2 k hlt
      obtain ⟨d0, d1⟩ := h'.S2 k hlt
      obtain ⟨m1, m2⟩ := LL.md_eq hmd k hlt
      have r1 := h.el k hlt
      have r2 := h'.el k hlt
      generalize LL.nthT us k = u at *
      generalize LL.nthT ts k = t at *
      obtain ⟨us1, uA, uc, ux⟩ := u
      obtain ⟨ts1, tA, tc, tx⟩ := t
      simp only at m1 m2
      subst m1 m2
      obtain ⟨gc, gf, gl⟩ := bcell hb
      go_wp2_with fail
      ((refine calm_b (by kernel_rfl) (by kernel_rfl) ?_); (repeat (first | ((apply sure_cons (hg := rfl)); (focus ((intro w' hS'); (obtain ⟨hcS, hfS, hlS⟩ := bcell hS'); (try simp only [World.size_setCell, World.size_alloc, World.size_drew] at hS' hcS hfS hlS); (go_simp); (try go_bits); (try ((first | rw [if_pos (by omega)] | rw [if_neg (by omega)]); go_simp)); (first | (with_reducible rfl) | (with_reducible exact rfl) | (with_reducible exact ⟨rfl, hS'⟩) | (go_at_call 53; go_loud (refine (eqProbeTube_c _ _ _ _ _ _ _ (r1.mono (b_step hb hS')) (r2.mono (b_step hb hS'))).mono ?_); rintro e w'' ⟨rfl, hb⟩; (first | (subst hb; exact ⟨rfl, hS'⟩) | exact ⟨rfl, b_to hS' hb (by first | exact Nat.le_refl _ | (have h1 := hS'.size; (try simp only [World.size_setCell, World.size_alloc, World.size_drew] at h1); omega))⟩))))); (simp only [Act.put, List.setIfInBounds_toArray, List.set_cons_zero, List.set_cons_succ])) | ((apply sure_off (hg := rfl)); (simp only [Act.put, List.setIfInBounds_toArray, List.set_cons_zero, List.set_cons_succ])))); (refine sure_nil ?_))
      intro W8 hS8
      go_wp2_with fail
      go_roundw
      case rel => exact ⟨k + 1, by omega, by go_num, b_step hb hS8⟩
      case measure => simp [intOf]; omega
    · obtain rfl : k = ts.length := by omega
      go_wp2
      go_ret
      exact ⟨rfl, hb⟩
set_option maxHeartbeats 2000000 in
theorem szProbeTubeS_c (ts : List LL.Tu) (left : Int) (A : Option Addr) (c : Nat) (w : World) (h0 : 0 ≤ left) (h1 : left ≤ 1048576) (h : RdT w A ts.length c ts) (hz : ∀ k, k < ts.length → (LL.nthT ts k).s.size ≤ 9223372036854775807) : Calls Try.prog 11 #[.slice A ts.length c, .int .i64 left] w fun e w' => (∃ v : Int, e = .returned (.int .i64 v) ∧ v ≤ 1048576) ∧ Below w.heap.size w w' := by
  have hroom := h.row.room
  by_cases hs : left - (ts.length : Int) < 0
  · go_enter Try.func11, Try.ntmps11
    go_wp2_with fail
    go_ret
    exact ⟨⟨_, rfl, by decide⟩, (by repeat' (first | with_reducible exact Below.refl _ _ | with_reducible assumption | with_reducible refine b_alloc ?_ _ | with_reducible refine b_drewN ?_ _ | with_reducible refine b_drew ?_ | with_reducible refine b_set ?_ (by first | (simp only [World.size_setCell, World.size_alloc, World.size_drew]; omega) | (simp; done) | (simp; omega)) _ | with_reducible refine b_step ?_ (by with_reducible assumption)))⟩
  · go_enter Try.func11, Try.ntmps11
    go_wp2_with fail
    go_loopw [1, 5] (fun l i wr => ∃ (k : Nat) (v : Int), k ≤ ts.length ∧ l = .int .i64 v ∧ 0 ≤ v ∧ v ≤ 1048576 ∧ i = .int .i64 k ∧ Below w.heap.size w wr) (fun _ i _ => ts.length - (intOf i).toNat)
    case atStart => exact ⟨0, left - (ts.length : Int), Nat.zero_le _, by go_num, by omega, by omega, rfl, Below.refl _ _⟩
    case round =>
      obtain ⟨k, v, hk, rfl, v0, v1, rfl, hb⟩ := hrel
      obtain ⟨gc, gf, gl⟩ := bcell hb
      by_cases hlt : k < ts.length
      · obtain ⟨b, off, rfl, hbw⟩ := h.row.addr (by omega)
        obtain ⟨c0, c1⟩ := h.S2 k hlt
        have r1 := (h.el k hlt).room
        have r2 := hz k hlt
        go_wp2_with fail
        refine (szProbeTube_c (LL.nthT ts k).s (LL.nthT ts k).xs.length v _ _ _ v0 v1 r2 (by omega)).mono ?_
        rintro e W2 ⟨rfl, hB⟩
        have q1 := LL.szT_le v0 (LL.nthT ts k).s.size (LL.nthT ts k).xs.length
        generalize LL.szT v (LL.nthT ts k).s.size (LL.nthT ts k).xs.length = v2 at *
        by_cases hn : v2 < 0
        · go_wp2_with fail
          go_ret
          exact ⟨⟨_, rfl, by decide⟩, b_step hb hB⟩
        · go_wp2_with fail
          go_roundw
          case rel => exact ⟨k + 1, v2, by omega, rfl, by omega, by omega, by go_num, b_step hb hB⟩
          case measure => simp [intOf]; omega
      · obtain rfl : k = ts.length := by omega
        go_wp2_with fail
        go_ret
        exact ⟨⟨_, rfl, v1⟩, hb⟩
end Go.Proofs.Ytkpnjnkfbhomgaa

/- The laws' helpers for what a book holds. An element's model holds its handles as well. -/
set_option linter.unusedVariables false
set_option linter.unusedSimpArgs false
namespace Go.Proofs.Ytkpnjnkfbhomgaa
open Go.RowKit
attribute [local go_sem] w_lt_add w_le_of w_le_add max2_i min2_i
namespace LL
structure He where
  name : ByteArray
  number : Int
  p : Path
  A : Option Addr
  c : Nat
  sent : Int
  n : Path
  B : Option Addr
  d : Nat
def he0 : He := ⟨⟨#[]⟩, 0, ⟨0, 0, [], 0, 0⟩, none, 0, 0, ⟨0, 0, [], 0, 0⟩, none, 0⟩
def nthH (l : List He) (k : Nat) : He := l.getD k he0
end LL
def heC (u : LL.He) : List Value := [.string u.name, .int .i64 u.number, .int .i64 u.p.q, .int .i64 u.p.s, .slice u.A u.p.steps.length u.c, .int .i64 u.p.fr, .int .i64 u.p.by_, .int .i64 u.sent, .int .i64 u.n.q, .int .i64 u.n.s, .slice u.B u.n.steps.length u.d, .int .i64 u.n.fr, .int .i64 u.n.by_]
theorem heE : EncOk heC 13 := ⟨fun _ => rfl, fun x u hu => by simp [heC] at hu; rcases hu with h | h | h | h | h | h | h | h | h | h | h | h | h <;> subst h <;> rfl, by decide⟩
/-- an element's rows can be read -/
structure RdH (w : World) (u : LL.He) : Prop where
  p : RdS w u.A u.p.steps.length u.c u.p.steps
  n : RdS w u.B u.n.steps.length u.d u.n.steps
theorem RdH.mono {w w' : World} {u : LL.He} (h : RdH w u) (hb : Below w.heap.size w w') : RdH w' u := ⟨h.p.mono hb, h.n.mono hb⟩
/-- an element's rows are one's own, in blocks of their own -/
structure OwnH (w : World) (u : LL.He) : Prop where
  p : OwnP w u.A u.c u.p
  n : OwnP w u.B u.d u.n
  ne : ∀ k, Value.ownBlock (.slice u.A u.p.steps.length u.c) = some k → ¬ Value.ownBlock (.slice u.B u.n.steps.length u.d) = some k
theorem OwnH.rd {w : World} {u : LL.He} (h : OwnH w u) : RdH w u := ⟨h.p.rd_at' stepE, h.n.rd_at' stepE⟩
theorem OwnH.b {w w' : World} {u : LL.He} (h : OwnH w u) (hb : Below w.heap.size w w') : OwnH w' u := ⟨h.p.b hb, h.n.b hb, h.ne⟩
def FpH (u : LL.He) (k : Nat) : Prop := Value.ownBlock (.slice u.A u.p.steps.length u.c) = some k ∨ Value.ownBlock (.slice u.B u.n.steps.length u.d) = some k
theorem OwnH.lt {w : World} {u : LL.He} (h : OwnH w u) : ∀ k, FpH u k → k < w.heap.size := fun k hk => hk.elim (fun hk => (h.p.row.lt k hk).2) (fun hk => (h.n.row.lt k hk).2)
theorem OwnH.gS {w w' : World} {S : Nat → Prop} {u : LL.He} (h : OwnH w u) (hg : GrownS w w' S) (hd : ∀ k, FpH u k → ¬ S k) : OwnH w' u := ⟨h.p.gS hg fun k hk => hd k (.inl hk), h.n.gS hg fun k hk => hd k (.inr hk), h.ne⟩
/-- the same, wherever it lies -/
def LL.SameH (u v : LL.He) : Prop := v.name = u.name ∧ v.number = u.number ∧ v.p = u.p ∧ v.sent = u.sent ∧ v.n = u.n
/-- a call has made an element -/
def MkHe (w : World) (u : LL.He) (en : Ending) (w' : World) : Prop := ∃ v, LL.SameH u v ∧ en = .returned (.agg #[.string v.name, .int .i64 v.number, .int .i64 v.p.q, .int .i64 v.p.s, .slice v.A v.p.steps.length v.c, .int .i64 v.p.fr, .int .i64 v.p.by_, .int .i64 v.sent, .int .i64 v.n.q, .int .i64 v.n.s, .slice v.B v.n.steps.length v.d, .int .i64 v.n.fr, .int .i64 v.n.by_]) ∧ OwnH w' v ∧ (∀ k, FpH v k → w.heap.size ≤ k) ∧ Below w.heap.size w w'
set_option maxRecDepth 100000 in
set_option maxHeartbeats 2000000 in
theorem toLinkHeld_c (u : LL.He) (w : World) (h : RdH w u) : Calls Try.prog 111 #[.agg #[.string u.name, .int .i64 u.number, .int .i64 u.p.q, .int .i64 u.p.s, .slice u.A u.p.steps.length u.c, .int .i64 u.p.fr, .int .i64 u.p.by_, .int .i64 u.sent, .int .i64 u.n.q, .int .i64 u.n.s, .slice u.B u.n.steps.length u.d, .int .i64 u.n.fr, .int .i64 u.n.by_]] w (MkHe w u) := by
  go_enter Try.func111, Try.ntmps111
  go_wp2_with fail
  refine calls_name (fun W => Below w.heap.size w W ∧ Blk W w.heap.size #[.string u.name, .int .i64 u.number, .int .i64 u.p.q, .int .i64 u.p.s, .slice u.A u.p.steps.length u.c, .int .i64 u.p.fr, .int .i64 u.p.by_, .int .i64 u.sent, .int .i64 u.n.q, .int .i64 u.n.s, .slice u.B u.n.steps.length u.d, .int .i64 u.n.fr, .int .i64 u.n.by_] 138 ∧ Blk W (w.heap.size + 1) #[.string ⟨#[]⟩, .int .i64 0, .int .i64 0, .int .i64 0, .slice none 0 0, .int .i64 0, .int .i64 0, .int .i64 0, .int .i64 0, .int .i64 0, .slice none 0 0, .int .i64 0, .int .i64 0] 97 ∧ Blk W (w.heap.size + 1 + 1) #[.string u.name, .int .i64 u.number, .int .i64 0, .int .i64 0, .slice none 0 0, .int .i64 0, .int .i64 0, .int .i64 0, .int .i64 0, .int .i64 0, .slice none 0 0, .int .i64 0, .int .i64 0] 97) ⟨(by repeat' (first | with_reducible exact Below.refl _ _ | with_reducible assumption | with_reducible refine b_alloc ?_ _ | with_reducible refine b_drewN ?_ _ | with_reducible refine b_drew ?_ | with_reducible refine b_set ?_ (by first | (simp only [World.size_setCell, World.size_alloc, World.size_drew]; omega) | (simp; done) | (simp; omega)) _ | with_reducible refine b_step ?_ (by with_reducible assumption))), (by repeat' (first | with_reducible assumption | with_reducible exact Blk.new _ _ _ | with_reducible exact Blk.new' _ _ (by first | (simp only [World.size_alloc, World.size_setCell, World.size_drew]; done) | (simp only [World.size_alloc, World.size_setCell, World.size_drew]; omega) | omega) | with_reducible refine Blk.a ?_ _ | with_reducible refine Blk.d ?_ | with_reducible refine Blk.dN ?_ _ | with_reducible refine Blk.s ?_ (by simp only [ne_eq]; omega) _ | with_reducible refine Blk.b ?_ (by with_reducible assumption))), (by repeat' (first | with_reducible assumption | with_reducible exact Blk.new _ _ _ | with_reducible exact Blk.new' _ _ (by first | (simp only [World.size_alloc, World.size_setCell, World.size_drew]; done) | (simp only [World.size_alloc, World.size_setCell, World.size_drew]; omega) | omega) | with_reducible refine Blk.a ?_ _ | with_reducible refine Blk.d ?_ | with_reducible refine Blk.dN ?_ _ | with_reducible refine Blk.s ?_ (by simp only [ne_eq]; omega) _ | with_reducible refine Blk.b ?_ (by with_reducible assumption))), (by repeat' (first | with_reducible assumption | with_reducible exact Blk.new _ _ _ | with_reducible exact Blk.new' _ _ (by first | (simp only [World.size_alloc, World.size_setCell, World.size_drew]; done) | (simp only [World.size_alloc, World.size_setCell, World.size_drew]; omega) | omega) | with_reducible refine Blk.a ?_ _ | with_reducible refine Blk.d ?_ | with_reducible refine Blk.dN ?_ _ | with_reducible refine Blk.s ?_ (by simp only [ne_eq]; omega) _ | with_reducible refine Blk.b ?_ (by with_reducible assumption)))⟩ ?_
  rintro W1 ⟨hb, kA, kR, kX⟩
  have hX1 := kX.cells.2.2
  refine (toFlyPath_c u.p u.A u.c _ (h.p.mono hb)).mono ?_
  intro e W2 hM
  obtain ⟨A1, c1, rfl, hO, hOg, hB⟩ := hM.gop
  have hO2 : ∀ k, Value.ownBlock (.slice A1 u.p.steps.length c1) = some k → w.heap.size + 1 + 1 < k := fun k hk => by have := hOg k hk; omega
  replace hb := b_step hb hB; replace kA := kA.b hB; replace kR := kR.b hB; replace kX := kX.b hB; clear hB
  clear hM hOg
  obtain ⟨ekA, fkA, lkA⟩ := kA.cells; obtain ⟨ekX, fkX, lkX⟩ := kX.cells
  go_wp2_with fail
  refine calls_name (fun W => Below w.heap.size w W ∧ Blk W (w.heap.size + 1) #[.string ⟨#[]⟩, .int .i64 0, .int .i64 0, .int .i64 0, .slice none 0 0, .int .i64 0, .int .i64 0, .int .i64 0, .int .i64 0, .int .i64 0, .slice none 0 0, .int .i64 0, .int .i64 0] 97 ∧ Blk W (w.heap.size + 1 + 1) #[.string u.name, .int .i64 u.number, .int .i64 u.p.q, .int .i64 u.p.s, .slice A1 u.p.steps.length c1, .int .i64 u.p.fr, .int .i64 u.p.by_, .int .i64 u.sent, .int .i64 0, .int .i64 0, .slice none 0 0, .int .i64 0, .int .i64 0] 97 ∧ OwnP W A1 c1 u.p) ⟨(by repeat' (first | with_reducible exact Below.refl _ _ | with_reducible assumption | with_reducible refine b_alloc ?_ _ | with_reducible refine b_drewN ?_ _ | with_reducible refine b_drew ?_ | with_reducible refine b_set ?_ (by first | (simp only [World.size_setCell, World.size_alloc, World.size_drew]; omega) | (simp; done) | (simp; omega)) _ | with_reducible refine b_step ?_ (by with_reducible assumption))), (by repeat' (first | with_reducible assumption | with_reducible exact Blk.new _ _ _ | with_reducible exact Blk.new' _ _ (by first | (simp only [World.size_alloc, World.size_setCell, World.size_drew]; done) | (simp only [World.size_alloc, World.size_setCell, World.size_drew]; omega) | omega) | with_reducible refine Blk.a ?_ _ | with_reducible refine Blk.d ?_ | with_reducible refine Blk.dN ?_ _ | with_reducible refine Blk.s ?_ (by simp only [ne_eq]; omega) _ | with_reducible refine Blk.b ?_ (by with_reducible assumption))), by simpa using (((((kX.put 2 (.int .i64 u.p.q)).put 3 (.int .i64 u.p.s)).put 4 (.slice A1 u.p.steps.length c1)).put 5 (.int .i64 u.p.fr)).put 6 (.int .i64 u.p.by_)).put 7 (.int .i64 u.sent), (by repeat' (first | with_reducible assumption | with_reducible refine Own.s ?_ _ (fun k hk => by have := hO2 k hk; (try simp only); omega) | with_reducible refine Own.a ?_ _ | with_reducible refine Own.d ?_ | with_reducible refine Own.dN ?_ _ | with_reducible refine Own.b ?_ (by with_reducible assumption)))⟩ ?_
  clear ekA fkA lkA ekX fkX lkX
  clear hb kA kR kX hO
  rintro W3 ⟨hb, kR, kX, hO⟩
  have hX3 := kX.cells.2.2
  have hOl := fun k hk => (hO.row.lt k hk).2
  refine (toFlyPath_c u.n u.B u.d _ (h.n.mono hb)).mono ?_
  intro e W4 hM
  obtain ⟨B1, d1, rfl, hQ, hQg, hB⟩ := hM.gop
  have hQ2 : ∀ k, Value.ownBlock (.slice B1 u.n.steps.length d1) = some k → w.heap.size + 1 + 1 < k := fun k hk => by have := hQg k hk; omega
  have hne : ∀ k, Value.ownBlock (.slice A1 u.p.steps.length c1) = some k → ¬ Value.ownBlock (.slice B1 u.n.steps.length d1) = some k := fun k h1 h2 => by have := hOl k h1; have := hQg k h2; omega
  replace hb := b_step hb hB; replace kR := kR.b hB; replace kX := kX.b hB; replace hO := hO.b hB; clear hB
  clear hM hQg hOl
  obtain ⟨ekR, fkR, lkR⟩ := kR.cells; obtain ⟨ekX, fkX, lkX⟩ := kX.cells
  go_wp21
  (refine bodyPost_ret (res_c rfl _ [.string u.name, .int .i64 u.number, .int .i64 u.p.q, .int .i64 u.p.s, .slice A1 u.p.steps.length c1, .int .i64 u.p.fr, .int .i64 u.p.by_, .int .i64 u.sent, .int .i64 u.n.q, .int .i64 u.n.s, .slice B1 u.n.steps.length d1, .int .i64 u.n.fr, .int .i64 u.n.by_] rfl _ Try.underlying97 rfl (by kernel_rfl) (by simp only [CellsAt, and_true]; and_intros <;> go_simp)) rfl ?_)
  exact ⟨⟨u.name, u.number, u.p, A1, c1, u.sent, u.n, B1, d1⟩, ⟨rfl, rfl, rfl, rfl, rfl⟩, rfl, ⟨(by repeat' (first | with_reducible assumption | with_reducible refine Own.s ?_ _ (fun k hk => by have := hO2 k hk; (try simp only); omega) | with_reducible refine Own.a ?_ _ | with_reducible refine Own.d ?_ | with_reducible refine Own.dN ?_ _ | with_reducible refine Own.b ?_ (by with_reducible assumption))), (by repeat' (first | with_reducible assumption | with_reducible refine Own.s ?_ _ (fun k hk => by have := hQ2 k hk; (try simp only); omega) | with_reducible refine Own.a ?_ _ | with_reducible refine Own.d ?_ | with_reducible refine Own.dN ?_ _ | with_reducible refine Own.b ?_ (by with_reducible assumption))), hne⟩, fun k hk => hk.elim (fun hk => by have := hO2 k hk; omega) (fun hk => by have := hQ2 k hk; omega), (by repeat' (first | with_reducible exact Below.refl _ _ | with_reducible assumption | with_reducible refine b_alloc ?_ _ | with_reducible refine b_drewN ?_ _ | with_reducible refine b_drew ?_ | with_reducible refine b_set ?_ (by first | (simp only [World.size_setCell, World.size_alloc, World.size_drew]; omega) | (simp; done) | (simp; omega)) _ | with_reducible refine b_step ?_ (by with_reducible assumption)))⟩
set_option maxRecDepth 100000 in
set_option maxHeartbeats 2000000 in
theorem eqLinkHeld_c (u v : LL.He) (w : World) (hs : LL.SameH u v) (h : RdH w u) (h' : RdH w v) : Calls Try.prog 114 #[.agg #[.string u.name, .int .i64 u.number, .int .i64 u.p.q, .int .i64 u.p.s, .slice u.A u.p.steps.length u.c, .int .i64 u.p.fr, .int .i64 u.p.by_, .int .i64 u.sent, .int .i64 u.n.q, .int .i64 u.n.s, .slice u.B u.n.steps.length u.d, .int .i64 u.n.fr, .int .i64 u.n.by_], .agg #[.string v.name, .int .i64 v.number, .int .i64 v.p.q, .int .i64 v.p.s, .slice v.A v.p.steps.length v.c, .int .i64 v.p.fr, .int .i64 v.p.by_, .int .i64 v.sent, .int .i64 v.n.q, .int .i64 v.n.s, .slice v.B v.n.steps.length v.d, .int .i64 v.n.fr, .int .i64 v.n.by_]] w fun e w' => e = .returned (.bool true) ∧ Below w.heap.size w w' := by
  obtain ⟨un, uk, up, uA, uc, us, uq, uB, ud⟩ := u
  obtain ⟨vn, vk, vp, vA, vc, vs, vq, vB, vd⟩ := v
  obtain ⟨e1, e2, e3, e4, e5⟩ := hs
  simp only at e1 e2 e3 e4 e5
  subst e1 e2 e3 e4 e5
  obtain ⟨r1, r2⟩ := h
  obtain ⟨r3, r4⟩ := h'
  simp only at r1 r2 r3 r4
  go_enter Try.func114, Try.ntmps114
  go_wp2_with fail
  refine calls_name (fun W => Below w.heap.size w W ∧ Blk W w.heap.size #[.string vn, .int .i64 vk, .int .i64 vp.q, .int .i64 vp.s, .slice uA vp.steps.length uc, .int .i64 vp.fr, .int .i64 vp.by_, .int .i64 vs, .int .i64 vq.q, .int .i64 vq.s, .slice uB vq.steps.length ud, .int .i64 vq.fr, .int .i64 vq.by_] 97 ∧ Blk W (w.heap.size + 1) #[.string vn, .int .i64 vk, .int .i64 vp.q, .int .i64 vp.s, .slice vA vp.steps.length vc, .int .i64 vp.fr, .int .i64 vp.by_, .int .i64 vs, .int .i64 vq.q, .int .i64 vq.s, .slice vB vq.steps.length vd, .int .i64 vq.fr, .int .i64 vq.by_] 97) ⟨(by repeat' (first | with_reducible exact Below.refl _ _ | with_reducible assumption | with_reducible refine b_alloc ?_ _ | with_reducible refine b_drewN ?_ _ | with_reducible refine b_drew ?_ | with_reducible refine b_set ?_ (by first | (simp only [World.size_setCell, World.size_alloc, World.size_drew]; omega) | (simp; done) | (simp; omega)) _ | with_reducible refine b_step ?_ (by with_reducible assumption))), (by repeat' (first | with_reducible assumption | with_reducible exact Blk.new _ _ _ | with_reducible exact Blk.new' _ _ (by first | (simp only [World.size_alloc, World.size_setCell, World.size_drew]; done) | (simp only [World.size_alloc, World.size_setCell, World.size_drew]; omega) | omega) | with_reducible refine Blk.a ?_ _ | with_reducible refine Blk.d ?_ | with_reducible refine Blk.dN ?_ _ | with_reducible refine Blk.s ?_ (by simp only [ne_eq]; omega) _ | with_reducible refine Blk.b ?_ (by with_reducible assumption))), (by repeat' (first | with_reducible assumption | with_reducible exact Blk.new _ _ _ | with_reducible exact Blk.new' _ _ (by first | (simp only [World.size_alloc, World.size_setCell, World.size_drew]; done) | (simp only [World.size_alloc, World.size_setCell, World.size_drew]; omega) | omega) | with_reducible refine Blk.a ?_ _ | with_reducible refine Blk.d ?_ | with_reducible refine Blk.dN ?_ _ | with_reducible refine Blk.s ?_ (by simp only [ne_eq]; omega) _ | with_reducible refine Blk.b ?_ (by with_reducible assumption)))⟩ ?_
  rintro W1 ⟨hb, kA, kB⟩
  refine (eqFlyPath_c vp _ _ _ _ _ (r1.mono hb) (r3.mono hb)).mono ?_
  rintro e W2 ⟨rfl, hB⟩
  replace hb := b_step hb hB; replace kA := kA.b hB; replace kB := kB.b hB; clear hB
  obtain ⟨ekA, fkA, lkA⟩ := kA.cells; obtain ⟨ekB, fkB, lkB⟩ := kB.cells
  go_wp2_with fail
  refine calls_name (fun W => Below W2.heap.size W2 W) (by repeat' (first | with_reducible exact Below.refl _ _ | with_reducible assumption | with_reducible refine b_alloc ?_ _ | with_reducible refine b_drewN ?_ _ | with_reducible refine b_drew ?_ | with_reducible refine b_set ?_ (by first | (simp only [World.size_setCell, World.size_alloc, World.size_drew]; omega) | (simp; done) | (simp; omega)) _ | with_reducible refine b_step ?_ (by with_reducible assumption))) ?_; intro W3 hE; clear ekA fkA lkA ekB fkB lkB; replace hb := b_step hb hE; replace kA := kA.b hE; replace kB := kB.b hE; clear hE
  refine (eqFlyPath_c vq _ _ _ _ _ (r2.mono hb) (r4.mono hb)).mono ?_
  rintro e W4 ⟨rfl, hB⟩
  replace hb := b_step hb hB
  clear hB
  go_wp2_with fail
  go_ret
  exact ⟨rfl, (by repeat' (first | with_reducible exact Below.refl _ _ | with_reducible assumption | with_reducible refine b_alloc ?_ _ | with_reducible refine b_drewN ?_ _ | with_reducible refine b_drew ?_ | with_reducible refine b_set ?_ (by first | (simp only [World.size_setCell, World.size_alloc, World.size_drew]; omega) | (simp; done) | (simp; omega)) _ | with_reducible refine b_step ?_ (by with_reducible assumption)))⟩
end Go.Proofs.Ytkpnjnkfbhomgaa

/- Rows of what a book holds: the laws' helpers for them. -/
set_option linter.unusedVariables false
set_option linter.unusedSimpArgs false
namespace Go.Proofs.Ytkpnjnkfbhomgaa
open Go.RowKit
attribute [local go_sem] w_lt_add w_le_of w_le_add max2_i min2_i
structure RdHS (w : World) (A : Option Addr) (n c : Nat) (us : List LL.He) : Prop where
  row : Rd heC 13 144 w A n c us
  el : ∀ k, k < n → RdH w (LL.nthH us k)
theorem RdHS.mono {w w' : World} {A : Option Addr} {n c : Nat} {us : List LL.He} (h : RdHS w A n c us) (hb : Below w.heap.size w w') : RdHS w' A n c us := ⟨h.row.mono hb, fun k hk => (h.el k hk).mono hb⟩
theorem RdHS.S13 {w : World} {b off n c : Nat} {us : List LL.He} (h : RdHS w (some ⟨b, off, none⟩) n c us) (k : Nat) (hk : k < n) :
    w.cell? ⟨b, off + k * 13, none⟩ = some (.string (LL.nthH us k).name) ∧ w.cell? ⟨b, off + k * 13 + 1, none⟩ = some (.int .i64 (LL.nthH us k).number) ∧ w.cell? ⟨b, off + k * 13 + 2, none⟩ = some (.int .i64 (LL.nthH us k).p.q) ∧ w.cell? ⟨b, off + k * 13 + 3, none⟩ = some (.int .i64 (LL.nthH us k).p.s) ∧
    w.cell? ⟨b, off + k * 13 + 4, none⟩ = some (.slice (LL.nthH us k).A (LL.nthH us k).p.steps.length (LL.nthH us k).c) ∧ w.cell? ⟨b, off + k * 13 + 5, none⟩ = some (.int .i64 (LL.nthH us k).p.fr) ∧ w.cell? ⟨b, off + k * 13 + 6, none⟩ = some (.int .i64 (LL.nthH us k).p.by_) ∧ w.cell? ⟨b, off + k * 13 + 7, none⟩ = some (.int .i64 (LL.nthH us k).sent) ∧
    w.cell? ⟨b, off + k * 13 + 8, none⟩ = some (.int .i64 (LL.nthH us k).n.q) ∧ w.cell? ⟨b, off + k * 13 + 9, none⟩ = some (.int .i64 (LL.nthH us k).n.s) ∧ w.cell? ⟨b, off + k * 13 + 10, none⟩ = some (.slice (LL.nthH us k).B (LL.nthH us k).n.steps.length (LL.nthH us k).d) ∧ w.cell? ⟨b, off + k * 13 + 11, none⟩ = some (.int .i64 (LL.nthH us k).n.fr) ∧
    w.cell? ⟨b, off + k * 13 + 12, none⟩ = some (.int .i64 (LL.nthH us k).n.by_) := by
  have hc : ∀ j u, (heC (LL.nthH us k))[j]? = some u → _ := h.row.here LL.he0 k hk
  exact ⟨hc 0 _ rfl, hc 1 _ rfl, hc 2 _ rfl, hc 3 _ rfl, hc 4 _ rfl, hc 5 _ rfl, hc 6 _ rfl, hc 7 _ rfl, hc 8 _ rfl, hc 9 _ rfl, hc 10 _ rfl, hc 11 _ rfl, hc 12 _ rfl⟩
theorem LL.nthH_lt {us : List LL.He} {x : LL.He} {k : Nat} (h : k < us.length) : LL.nthH (us ++ [x]) k = LL.nthH us k := by unfold LL.nthH; rw [List.getD_eq_getElem?_getD, List.getD_eq_getElem?_getD, List.getElem?_append_left h]
theorem LL.nthH_last {us : List LL.He} {x : LL.He} : LL.nthH (us ++ [x]) us.length = x := by unfold LL.nthH; rw [List.getD_eq_getElem?_getD, List.getElem?_append_right (Nat.le_refl _), Nat.sub_self]; rfl
/-- own rows of elements with own rows, all in blocks of their own -/
structure OwnHS (w : World) (A : Option Addr) (n c : Nat) (vs : List LL.He) : Prop where
  row : Own heC 13 144 97 w (.slice A n c) vs
  len : vs.length = n
  el : ∀ k, k < n → OwnH w (LL.nthH vs k)
  ne : ∀ k, k < n → ∀ j, FpH (LL.nthH vs k) j → ¬ Value.ownBlock (.slice A n c) = some j
  dis : ∀ i k, i < k → k < n → ∀ j, FpH (LL.nthH vs i) j → ¬ FpH (LL.nthH vs k) j
theorem OwnHS.rd {w : World} {A : Option Addr} {n c : Nat} {vs : List LL.He} (h : OwnHS w A n c vs) : RdHS w A n c vs := ⟨h.row.rd_at' heE, fun k hk => (h.el k hk).rd⟩
def SameHS (us vs : List LL.He) : Prop := vs.length = us.length ∧ ∀ k, k < us.length → LL.SameH (LL.nthH us k) (LL.nthH vs k)
def FpHS (A : Option Addr) (n c : Nat) (vs : List LL.He) (j : Nat) : Prop := Value.ownBlock (.slice A n c) = some j ∨ ∃ k, k < n ∧ FpH (LL.nthH vs k) j
def MkHS (w : World) (us : List LL.He) (en : Ending) (w' : World) : Prop := ∃ vs A' c', SameHS us vs ∧ en = .returned (.slice A' us.length c') ∧ OwnHS w' A' us.length c' vs ∧ (∀ j, FpHS A' us.length c' vs j → w.heap.size ≤ j) ∧ Below w.heap.size w w'
set_option maxRecDepth 100000 in
set_option maxHeartbeats 2000000 in
theorem toLinkHeldS_c (us : List LL.He) (A : Option Addr) (c : Nat) (w : World) (h : RdHS w A us.length c us) : Calls Try.prog 59 #[.slice A us.length c] w (MkHS w us) := by
  have hroom := h.row.room
  go_enter Try.func59, Try.ntmps59
  go_wp2_with (at_make; (refine wp_make rfl _ _ _ rfl heE (.agg (heC LL.he0).toArray) LL.he0 Try.underlying34 (by kernel_rfl) rfl us.length rfl rfl hroom (by decide) ?_); intro g w1 hg hO hb hgl; have hge : w.heap.size ≤ g := (by omega); clear hg)
  go_loopw [4] (fun i wr => ∃ (vs : List LL.He), vs.length ≤ us.length ∧ i = .int .i64 vs.length ∧ (∀ k, k < vs.length → LL.SameH (LL.nthH us k) (LL.nthH vs k)) ∧ Own heC 13 144 97 wr (.slice (some ⟨g, 0, none⟩) us.length us.length) (vs ++ List.replicate (us.length - vs.length) LL.he0) ∧ (∀ k, k < vs.length → OwnH wr (LL.nthH vs k) ∧ ∀ j, FpH (LL.nthH vs k) j → g < j) ∧ (∀ i k, i < k → k < vs.length → ∀ j, FpH (LL.nthH vs i) j → ¬ FpH (LL.nthH vs k) j) ∧ Below w.heap.size w wr ∧ g < wr.heap.size) (fun i _ => us.length - (intOf i).toNat)
  case atStart => exact ⟨[], Nat.zero_le _, rfl, (fun k hk => absurd hk (by simp)), by simpa using hO, (fun k hk => absurd hk (by simp)), (fun i k h1 h2 => absurd h2 (by simp)), hb, hgl⟩
  case round =>
    clear hO hb hgl
    obtain ⟨vs, hk, rfl, hsm, hO, hel, hdis, hb, hgl⟩ := hrel
    obtain ⟨hc, hf, hl⟩ := bcell hb
    by_cases hlt : vs.length < us.length
    · obtain ⟨b, off, rfl, hbw⟩ := h.row.addr (by omega)
      obtain ⟨c0, c1, c2, c3, c4, c5, c6, c7, c8, c9, c10, c11, c12⟩ := h.S13 vs.length hlt
      have hul : (vs ++ List.replicate (us.length - vs.length) LL.he0).length = us.length := by simp; omega
      have Hul := Lib.hid hul
      clear hul
      have hset := Lib.hid (set_mid vs us.length LL.he0)
      go_wp2_with fail
      refine (toLinkHeld_c (LL.nthH us vs.length) _ ((h.el vs.length hlt).mono hb)).mono ?_
      rintro e W2 ⟨v, hsv, rfl, hN, hNg, hB⟩
      have hz := hB.size
      go_wp2_with ((with_reducible refine gate_st 97 21 rfl ?_); (refine wp_put (bytes := 144) (e := 97) (cap := us.length) 97 21 _ rfl rfl rfl heE Hul.out vs.length v _ rfl rfl rfl rfl ?_ ?_ hlt ?_); (kernel_rfl); (exact hO.b hB); intro w3 hO3 hg3)
      go_roundw
      case rel =>
        rw [hset.out _ hlt] at hO3
        have hz3 := hg3.size
        have hG := GrownS.of (v := .slice (some ⟨g, 0, none⟩) us.length us.length) hg3
        have hgb : ∀ j, Value.ownBlock (.slice (some ⟨g, 0, none⟩) us.length us.length) = some j → j = g := fun j hj => by cases hj; rfl
        refine ⟨vs ++ [v], by simp; omega, by simp, ?_, hO3, ?_, ?_, b_grown (b_step hb hB) hg3 hge, by omega⟩
        · intro k hk9
          rcases Nat.lt_or_ge k vs.length with h9 | h9
          · rw [LL.nthH_lt h9]; exact hsm k h9
          · obtain rfl : k = vs.length := by simp at hk9; omega
            rw [LL.nthH_last]; exact hsv
        · intro k hk9
          rcases Nat.lt_or_ge k vs.length with h9 | h9
          · rw [LL.nthH_lt h9]
            obtain ⟨q1, q2⟩ := hel k h9
            exact ⟨(q1.b hB).gS hG (fun j h1 h2 => by have := q2 j h1; have := hgb j h2; omega), q2⟩
          · obtain rfl : k = vs.length := by simp at hk9; omega
            rw [LL.nthH_last]
            exact ⟨hN.gS hG (fun j h1 h2 => by have := hNg j h1; have := hgb j h2; omega), fun j hj => by have := hNg j hj; omega⟩
        · intro i k hik hk9
          rcases Nat.lt_or_ge k vs.length with h9 | h9
          · rw [LL.nthH_lt h9, LL.nthH_lt (by omega)]; exact hdis i k hik h9
          · obtain rfl : k = vs.length := by simp at hk9; omega
            rw [LL.nthH_last, LL.nthH_lt hik]
            intro j h1 h2
            have := (hel i hik).1.lt j h1
            have := hNg j h2
            omega
      case measure => simp [intOf]; omega
    · have hkl : vs.length = us.length := by omega
      rw [hkl] at hsm hel hdis
      rw [hkl, Nat.sub_self, List.replicate_zero, List.append_nil] at hO
      go_wp2_with fail
      go_ret
      refine ⟨vs, _, _, ⟨hkl, hsm⟩, rfl, ⟨hO, hkl, fun k hk2 => (hel k hk2).1, fun k hk2 j h1 h2 => ?_, hdis⟩, fun j hj => ?_, hb⟩
      · cases h2
        exact absurd ((hel k hk2).2 _ h1) (Nat.lt_irrefl _)
      · rcases hj with hj | ⟨k, hk2, hj⟩
        · cases hj; exact hge
        · have := (hel k hk2).2 j hj; omega
end Go.Proofs.Ytkpnjnkfbhomgaa

/- Books: the laws' helpers that ask, copy and measure. -/
set_option linter.unusedVariables false
set_option linter.unusedSimpArgs false
namespace Go.Proofs.Ytkpnjnkfbhomgaa
open Go.RowKit
attribute [local go_sem] w_lt_add w_le_of w_le_add max2_i min2_i
set_option maxRecDepth 100000 in
set_option maxHeartbeats 2000000 in
theorem eqLinkHeldS_c (us vs : List LL.He) (A A' : Option Addr) (c c' : Nat) (w : World) (hs : SameHS us vs) (h : RdHS w A us.length c us) (h' : RdHS w A' us.length c' vs) : Calls Try.prog 65 #[.slice A us.length c, .slice A' us.length c'] w fun e w' => e = .returned (.bool true) ∧ Below w.heap.size w w' := by
  have hroom := h.row.room
  go_enter Try.func65, Try.ntmps65
  go_wp2
  go_loopw [5] (fun i wr => ∃ k : Nat, k ≤ us.length ∧ i = .int .i64 k ∧ Below w.heap.size w wr) (fun i _ => us.length - (intOf i).toNat)
  case atStart => exact ⟨0, Nat.zero_le _, rfl, Below.refl _ _⟩
  case round =>
    obtain ⟨k, hk, rfl, hb⟩ := hrel
    by_cases hlt : k < us.length
    · obtain ⟨b, off, rfl, hbw⟩ := h.row.addr (by omega)
      obtain ⟨b', off', rfl, hbw'⟩ := h'.row.addr (by omega)
      obtain ⟨c0, c1, c2, c3, c4, c5, c6, c7, c8, c9, c10, c11, c12⟩ := h.S13 k hlt
      obtain ⟨d0, d1, d2, d3, d4, d5, d6, d7, d8, d9, d10, d11, d12⟩ := h'.S13 k hlt
      have hsk := hs.2 k hlt
      have r1 := h.el k hlt
      have r2 := h'.el k hlt
      generalize LL.nthH us k = u at *
      generalize LL.nthH vs k = v at *
      obtain ⟨gc, gf, gl⟩ := bcell hb
      go_wp2_with fail
      ((refine calm_b (by kernel_rfl) (by kernel_rfl) ?_); (repeat (first | ((apply sure_cons (hg := rfl)); (focus ((intro w' hS'); (obtain ⟨hcS, hfS, hlS⟩ := bcell hS'); (try simp only [World.size_setCell, World.size_alloc, World.size_drew] at hS' hcS hfS hlS); (go_simp); (try go_bits); (try ((first | rw [if_pos (by omega)] | rw [if_neg (by omega)]); go_simp)); (first | (with_reducible rfl) | (with_reducible exact rfl) | (with_reducible exact ⟨rfl, hS'⟩) | (go_at_call 114; go_loud (refine (eqLinkHeld_c u v _ hsk (r1.mono (b_step hb hS')) (r2.mono (b_step hb hS'))).mono ?_); rintro e w'' ⟨rfl, hb⟩; (first | (subst hb; exact ⟨rfl, hS'⟩) | exact ⟨rfl, b_to hS' hb (by first | exact Nat.le_refl _ | (have h1 := hS'.size; (try simp only [World.size_setCell, World.size_alloc, World.size_drew] at h1); omega))⟩))))); (simp only [Act.put, List.setIfInBounds_toArray, List.set_cons_zero, List.set_cons_succ])) | ((apply sure_off (hg := rfl)); (simp only [Act.put, List.setIfInBounds_toArray, List.set_cons_zero, List.set_cons_succ])))); (refine sure_nil ?_))
      intro W8 hS8
      go_wp2_with fail
      go_roundw
      case rel => exact ⟨k + 1, by omega, by go_num, b_step hb hS8⟩
      case measure => simp [intOf]; omega
    · obtain rfl : k = us.length := by omega
      go_wp2
      go_ret
      exact ⟨rfl, hb⟩
/-- a call has made a book -/
def MkBk (w : World) (last : Int) (us : List LL.He) (en : Ending) (w' : World) : Prop := ∃ vs A' c', SameHS us vs ∧ en = .returned (.agg #[.int .i64 last, .slice A' us.length c']) ∧ OwnHS w' A' us.length c' vs ∧ (∀ j, FpHS A' us.length c' vs j → w.heap.size ≤ j) ∧ Below w.heap.size w w'
theorem OwnHS.lt {w : World} {A : Option Addr} {n c : Nat} {vs : List LL.He} (h : OwnHS w A n c vs) : ∀ j, FpHS A n c vs j → j < w.heap.size := fun j hj => hj.elim (fun hj => (h.row.row.lt j hj).2) (fun ⟨k, hk, hj⟩ => (h.el k hk).lt j hj)
theorem OwnHS.move {w w' : World} {A : Option Addr} {n c : Nat} {vs : List LL.He} (h : OwnHS w A n c vs) (hm : ∀ j, FpHS A n c vs j → w'.heap[j]? = w.heap[j]?) : OwnHS w' A n c vs :=
  ⟨h.row.move fun j hj => hm j (.inl hj), h.len, fun k hk => ⟨(h.el k hk).p.move fun j hj => hm j (.inr ⟨k, hk, .inl hj⟩), (h.el k hk).n.move fun j hj => hm j (.inr ⟨k, hk, .inr hj⟩), (h.el k hk).ne⟩, h.ne, h.dis⟩
theorem OwnHS.b {w w' : World} {A : Option Addr} {n c : Nat} {vs : List LL.He} (h : OwnHS w A n c vs) (hb : Below w.heap.size w w') : OwnHS w' A n c vs := h.move fun j hj => hb.block j (h.lt j hj)
theorem OwnHS.s {w : World} {A : Option Addr} {n c : Nat} {vs : List LL.He} (h : OwnHS w A n c vs) {p : Addr} (u : Value) (hne : ∀ j, FpHS A n c vs j → j ≠ p.block) : OwnHS (w.setCell p u) A n c vs := h.move fun j hj => Below.heap_setCell w p u j (hne j hj)
set_option maxRecDepth 100000 in
set_option maxHeartbeats 2000000 in
theorem toLinkBook_c (last : Int) (us : List LL.He) (A : Option Addr) (c : Nat) (w : World) (h : RdHS w A us.length c us) : Calls Try.prog 18 #[.agg #[.int .i64 last, .slice A us.length c]] w (MkBk w last us) := by
  go_enter Try.func18, Try.ntmps18
  go_wp2_with fail
  refine calls_name (fun W => Below w.heap.size w W ∧ Blk W (w.heap.size + 1) #[.int .i64 0, .slice none 0 0] 36 ∧ Blk W (w.heap.size + 1 + 1) #[.int .i64 last, .slice none 0 0] 36) ⟨(by repeat' (first | with_reducible exact Below.refl _ _ | with_reducible assumption | with_reducible refine b_alloc ?_ _ | with_reducible refine b_drewN ?_ _ | with_reducible refine b_drew ?_ | with_reducible refine b_set ?_ (by first | (simp only [World.size_setCell, World.size_alloc, World.size_drew]; omega) | (simp; done) | (simp; omega)) _ | with_reducible refine b_step ?_ (by with_reducible assumption))), (by repeat' (first | with_reducible assumption | with_reducible exact Blk.new _ _ _ | with_reducible exact Blk.new' _ _ (by first | (simp only [World.size_alloc, World.size_setCell, World.size_drew]; done) | (simp only [World.size_alloc, World.size_setCell, World.size_drew]; omega) | omega) | with_reducible refine Blk.a ?_ _ | with_reducible refine Blk.d ?_ | with_reducible refine Blk.dN ?_ _ | with_reducible refine Blk.s ?_ (by simp only [ne_eq]; omega) _ | with_reducible refine Blk.b ?_ (by with_reducible assumption))), (by repeat' (first | with_reducible assumption | with_reducible exact Blk.new _ _ _ | with_reducible exact Blk.new' _ _ (by first | (simp only [World.size_alloc, World.size_setCell, World.size_drew]; done) | (simp only [World.size_alloc, World.size_setCell, World.size_drew]; omega) | omega) | with_reducible refine Blk.a ?_ _ | with_reducible refine Blk.d ?_ | with_reducible refine Blk.dN ?_ _ | with_reducible refine Blk.s ?_ (by simp only [ne_eq]; omega) _ | with_reducible refine Blk.b ?_ (by with_reducible assumption)))⟩ ?_
  rintro W1 ⟨hb, kR, kX⟩
  have hX1 := kX.cells.2.2
  refine (toLinkHeldS_c us A c _ (h.mono hb)).mono ?_
  rintro e W2 ⟨vs, A1, c1, hs, rfl, hO, hOg, hB⟩
  have hO2 : ∀ j, FpHS A1 us.length c1 vs j → w.heap.size + 1 + 1 < j := fun j hj => by have := hOg j hj; omega
  replace hb := b_step hb hB; replace kR := kR.b hB; replace kX := kX.b hB; clear hB
  clear hOg
  obtain ⟨ekR, fkR, lkR⟩ := kR.cells; obtain ⟨ekX, fkX, lkX⟩ := kX.cells
  go_wp21
  (refine bodyPost_ret (res_c rfl _ [.int .i64 last, .slice A1 us.length c1] rfl _ Try.underlying36 rfl (by kernel_rfl) (by simp only [CellsAt, and_true]; and_intros <;> go_simp)) rfl ?_)
  refine ⟨vs, A1, c1, hs, rfl, ?_, fun j hj => by have := hO2 j hj; omega, (by repeat' (first | with_reducible exact Below.refl _ _ | with_reducible assumption | with_reducible refine b_alloc ?_ _ | with_reducible refine b_drewN ?_ _ | with_reducible refine b_drew ?_ | with_reducible refine b_set ?_ (by first | (simp only [World.size_setCell, World.size_alloc, World.size_drew]; omega) | (simp; done) | (simp; omega)) _ | with_reducible refine b_step ?_ (by with_reducible assumption)))⟩
  repeat' (first | with_reducible assumption | with_reducible refine OwnHS.s ?_ _ (fun j hj => by have := hO2 j hj; (try simp only); omega))
set_option maxRecDepth 100000 in
set_option maxHeartbeats 2000000 in
theorem eqLinkBook_c (last : Int) (us vs : List LL.He) (A A' : Option Addr) (c c' : Nat) (w : World) (hs : SameHS us vs) (h : RdHS w A us.length c us) (h' : RdHS w A' us.length c' vs) : Calls Try.prog 20 #[.agg #[.int .i64 last, .slice A us.length c], .agg #[.int .i64 last, .slice A' us.length c']] w fun e w' => e = .returned (.bool true) ∧ Below w.heap.size w w' := by
  go_enter Try.func20, Try.ntmps20
  go_wp2_with (go_at_call 65; go_loud (refine (eqLinkHeldS_c us vs _ _ _ _ _ hs (h.mono (by repeat' (first | with_reducible exact Below.refl _ _ | with_reducible assumption | with_reducible refine b_alloc ?_ _ | with_reducible refine b_drewN ?_ _ | with_reducible refine b_drew ?_ | with_reducible refine b_set ?_ (by first | (simp only [World.size_setCell, World.size_alloc, World.size_drew]; omega) | (simp; done) | (simp; omega)) _ | with_reducible refine b_step ?_ (by with_reducible assumption)))) (h'.mono (by repeat' (first | with_reducible exact Below.refl _ _ | with_reducible assumption | with_reducible refine b_alloc ?_ _ | with_reducible refine b_drewN ?_ _ | with_reducible refine b_drew ?_ | with_reducible refine b_set ?_ (by first | (simp only [World.size_setCell, World.size_alloc, World.size_drew]; omega) | (simp; done) | (simp; omega)) _ | with_reducible refine b_step ?_ (by with_reducible assumption))))).mono ?_); rintro e w1 ⟨rfl, hb⟩; (repeat (with_reducible first | replace hb := b_un hb | replace hb := b_unN hb)); obtain ⟨hc, hf, hl⟩ := bcell hb; obtain ⟨gc, gf, gl⟩ := bcell (b_step (w := w) (by repeat' (first | with_reducible exact Below.refl _ _ | with_reducible assumption | with_reducible refine b_alloc ?_ _ | with_reducible refine b_drewN ?_ _ | with_reducible refine b_drew ?_ | with_reducible refine b_set ?_ (by first | (simp only [World.size_setCell, World.size_alloc, World.size_drew]; omega) | (simp; done) | (simp; omega)) _ | with_reducible refine b_step ?_ (by with_reducible assumption))) hb); have hz := hb.size; (try simp at hz); have yw1_0 : w.heap.size < w1.heap.size := (by omega); have yw1_1 : w.heap.size + 1 < w1.heap.size := (by omega))
  go_ret
  exact ⟨rfl, (by repeat' (first | with_reducible exact Below.refl _ _ | with_reducible assumption | with_reducible refine b_alloc ?_ _ | with_reducible refine b_drewN ?_ _ | with_reducible refine b_drew ?_ | with_reducible refine b_set ?_ (by first | (simp only [World.size_setCell, World.size_alloc, World.size_drew]; omega) | (simp; done) | (simp; omega)) _ | with_reducible refine b_step ?_ (by with_reducible assumption)))⟩
end Go.Proofs.Ytkpnjnkfbhomgaa

/- Where a name stands in a book. -/
set_option linter.unusedVariables false
set_option linter.unusedSimpArgs false
namespace Go.Proofs.Ytkpnjnkfbhomgaa
open Go.RowKit
attribute [local go_sem] w_lt_add w_le_of w_le_add max2_i min2_i
namespace LL
/-- the first element of a name, from k on, of f -/
def atF (us : List He) (n : ByteArray) : Nat → Nat → Int
  | 0, _ => -1
  | f + 1, k => if (nthH us k).name.toList = n.toList then (k : Int) else atF us n f (k + 1)
def atH (us : List He) (n : ByteArray) : Int := atF us n us.length 0
theorem atF_hit {us : List He} {n : ByteArray} {f k : Nat} (h : (nthH us k).name.toList = n.toList) : atF us n (f + 1) k = k := if_pos h
theorem atF_miss {us : List He} {n : ByteArray} {f k : Nat} (h : ¬ (nthH us k).name.toList = n.toList) : atF us n (f + 1) k = atF us n f (k + 1) := if_neg h
end LL
set_option maxRecDepth 100000 in
set_option maxHeartbeats 2000000 in
theorem impl_at_c (last : Int) (us : List LL.He) (n : ByteArray) (A : Option Addr) (c : Nat) (w : World) (h : RdHS w A us.length c us) : Calls Try.prog 69 #[.agg #[.int .i64 last, .slice A us.length c], .string n] w fun e w' => e = .returned (.int .i64 (LL.atH us n)) ∧ Below w.heap.size w w' := by
  have hroom := h.row.room
  go_enter Try.func69, Try.ntmps69
  go_wp2_with fail
  go_loopw [10] (fun i wr => ∃ (k : Nat), k ≤ us.length ∧ i = .int .i64 k ∧ LL.Same (LL.atH us n) (LL.atF us n (us.length - k) k) ∧ Below w.heap.size w wr) (fun i _ => us.length - (intOf i).toNat)
  case atStart => exact ⟨0, Nat.zero_le _, rfl, (rfl : _ = _), (by repeat' (first | with_reducible exact Below.refl _ _ | with_reducible assumption | with_reducible refine b_alloc ?_ _ | with_reducible refine b_drewN ?_ _ | with_reducible refine b_drew ?_ | with_reducible refine b_set ?_ (by first | (simp only [World.size_setCell, World.size_alloc, World.size_drew]; omega) | (simp; done) | (simp; omega)) _ | with_reducible refine b_step ?_ (by with_reducible assumption)))⟩
  case round =>
    obtain ⟨k, hk, rfl, hs, hb⟩ := hrel
    obtain ⟨gc, gf, gl⟩ := bcell hb
    by_cases hlt : k < us.length
    · obtain ⟨b, off, rfl, hbw⟩ := h.row.addr (by omega)
      obtain ⟨c0, c1, c2, c3, c4, c5, c6, c7, c8, c9, c10, c11, c12⟩ := h.S13 k hlt
      rw [show us.length - k = (us.length - (k + 1)) + 1 by omega] at hs
      by_cases he : (LL.nthH us k).name.toList = n.toList
      · have he2 : ((LL.nthH us k).name.toList == n.toList) = true := by simp [he]
        have hst := hs.out.trans (LL.atF_hit he)
        have Hst := Lib.hid hst
        clear hst he hs
        go_wp2_with fail
        go_ret
        exact ⟨ri Hst.out.symm, (by repeat' (first | with_reducible exact Below.refl _ _ | with_reducible assumption | with_reducible refine b_alloc ?_ _ | with_reducible refine b_drewN ?_ _ | with_reducible refine b_drew ?_ | with_reducible refine b_set ?_ (by first | (simp only [World.size_setCell, World.size_alloc, World.size_drew]; omega) | (simp; done) | (simp; omega)) _ | with_reducible refine b_step ?_ (by with_reducible assumption)))⟩
      · have he2 : ((LL.nthH us k).name.toList == n.toList) = false := by simp [he]
        have hst := hs.trans (LL.atF_miss he)
        clear he hs
        go_wp2_with fail
        go_roundw
        case rel => exact ⟨k + 1, by omega, by go_num, hst, (by repeat' (first | with_reducible exact Below.refl _ _ | with_reducible assumption | with_reducible refine b_alloc ?_ _ | with_reducible refine b_drewN ?_ _ | with_reducible refine b_drew ?_ | with_reducible refine b_set ?_ (by first | (simp only [World.size_setCell, World.size_alloc, World.size_drew]; omega) | (simp; done) | (simp; omega)) _ | with_reducible refine b_step ?_ (by with_reducible assumption)))⟩
        case measure => simp [intOf]; omega
    · obtain rfl : k = us.length := by omega
      rw [Nat.sub_self] at hs
      have hst := hs.out
      have Hst := Lib.hid hst
      clear hst hs
      go_wp2_with fail
      go_ret
      exact ⟨ri Hst.out.symm, (by repeat' (first | with_reducible exact Below.refl _ _ | with_reducible assumption | with_reducible refine b_alloc ?_ _ | with_reducible refine b_drewN ?_ _ | with_reducible refine b_drew ?_ | with_reducible refine b_set ?_ (by first | (simp only [World.size_setCell, World.size_alloc, World.size_drew]; omega) | (simp; done) | (simp; omega)) _ | with_reducible refine b_step ?_ (by with_reducible assumption)))⟩
set_option maxRecDepth 100000 in
set_option maxHeartbeats 2000000 in
theorem spec_l23At_c (last : Int) (us : List LL.He) (n : ByteArray) (A : Option Addr) (c : Nat) (w : World) (h : RdHS w A us.length c us) : Calls Try.prog 66 #[.agg #[.int .i64 last, .slice A us.length c], .string n] w fun e w' => e = .returned (.int .i64 (LL.atH us n)) ∧ Below w.heap.size w w' := by
  have hroom := h.row.room
  go_enter Try.func66, Try.ntmps66
  go_wp2_with fail
  refine wp_name (fun W => Below w.heap.size w W ∧ Blk W w.heap.size #[.int .i64 last, .slice A us.length c] 36) ⟨(by repeat' (first | with_reducible exact Below.refl _ _ | with_reducible assumption | with_reducible refine b_alloc ?_ _ | with_reducible refine b_drewN ?_ _ | with_reducible refine b_drew ?_ | with_reducible refine b_set ?_ (by first | (simp only [World.size_setCell, World.size_alloc, World.size_drew]; omega) | (simp; done) | (simp; omega)) _ | with_reducible refine b_step ?_ (by with_reducible assumption))), (by repeat' (first | with_reducible assumption | with_reducible exact Blk.new _ _ _ | with_reducible exact Blk.new' _ _ (by first | (simp only [World.size_alloc, World.size_setCell, World.size_drew]; done) | (simp only [World.size_alloc, World.size_setCell, World.size_drew]; omega) | omega) | with_reducible refine Blk.a ?_ _ | with_reducible refine Blk.d ?_ | with_reducible refine Blk.dN ?_ _ | with_reducible refine Blk.s ?_ (by simp only [ne_eq]; omega) _ | with_reducible refine Blk.b ?_ (by with_reducible assumption)))⟩ ?_
  rintro W1 ⟨hb, kP⟩
  go_loopw [5] (fun i wr => ∃ (k : Nat), k ≤ us.length ∧ i = .int .i64 k ∧ LL.Same (LL.atH us n) (LL.atF us n (us.length - k) k) ∧ Below w.heap.size w wr ∧ Blk wr w.heap.size #[.int .i64 last, .slice A us.length c] 36) (fun i _ => us.length - (intOf i).toNat)
  case atStart => exact ⟨0, Nat.zero_le _, rfl, (rfl : _ = _), hb, kP⟩
  case round =>
    clear hb kP
    obtain ⟨k, hk, rfl, hs, hb, kP⟩ := hrel
    obtain ⟨ekP, fkP, lkP⟩ := kP.cells
    obtain ⟨gc, gf, gl⟩ := bcell hb
    by_cases hlt : k < us.length
    · obtain ⟨b, off, rfl, hbw⟩ := h.row.addr (by omega)
      obtain ⟨c0, c1, c2, c3, c4, c5, c6, c7, c8, c9, c10, c11, c12⟩ := h.S13 k hlt
      rw [show us.length - k = (us.length - (k + 1)) + 1 by omega] at hs
      by_cases he : (LL.nthH us k).name.toList = n.toList
      · have he2 : ((LL.nthH us k).name.toList == n.toList) = true := by simp [he]
        have hst := hs.out.trans (LL.atF_hit he)
        have Hst := Lib.hid hst
        clear hst he hs
        go_wp2_with fail
        go_ret
        exact ⟨ri Hst.out.symm, (by repeat' (first | with_reducible exact Below.refl _ _ | with_reducible assumption | with_reducible refine b_alloc ?_ _ | with_reducible refine b_drewN ?_ _ | with_reducible refine b_drew ?_ | with_reducible refine b_set ?_ (by first | (simp only [World.size_setCell, World.size_alloc, World.size_drew]; omega) | (simp; done) | (simp; omega)) _ | with_reducible refine b_step ?_ (by with_reducible assumption)))⟩
      · have he2 : ((LL.nthH us k).name.toList == n.toList) = false := by simp [he]
        have hst := hs.trans (LL.atF_miss he)
        clear he hs
        go_wp2_with fail
        go_roundw
        case rel => exact ⟨k + 1, by omega, by go_num, hst, (by repeat' (first | with_reducible exact Below.refl _ _ | with_reducible assumption | with_reducible refine b_alloc ?_ _ | with_reducible refine b_drewN ?_ _ | with_reducible refine b_drew ?_ | with_reducible refine b_set ?_ (by first | (simp only [World.size_setCell, World.size_alloc, World.size_drew]; omega) | (simp; done) | (simp; omega)) _ | with_reducible refine b_step ?_ (by with_reducible assumption))), (by repeat' (first | with_reducible assumption | with_reducible exact Blk.new _ _ _ | with_reducible exact Blk.new' _ _ (by first | (simp only [World.size_alloc, World.size_setCell, World.size_drew]; done) | (simp only [World.size_alloc, World.size_setCell, World.size_drew]; omega) | omega) | with_reducible refine Blk.a ?_ _ | with_reducible refine Blk.d ?_ | with_reducible refine Blk.dN ?_ _ | with_reducible refine Blk.s ?_ (by simp only [ne_eq]; omega) _ | with_reducible refine Blk.b ?_ (by with_reducible assumption)))⟩
        case measure => simp [intOf]; omega
    · obtain rfl : k = us.length := by omega
      rw [Nat.sub_self] at hs
      have hst := hs.out
      have Hst := Lib.hid hst
      clear hst hs
      go_wp2_with fail
      go_ret
      exact ⟨ri Hst.out.symm, (by repeat' (first | with_reducible exact Below.refl _ _ | with_reducible assumption | with_reducible refine b_alloc ?_ _ | with_reducible refine b_drewN ?_ _ | with_reducible refine b_drew ?_ | with_reducible refine b_set ?_ (by first | (simp only [World.size_setCell, World.size_alloc, World.size_drew]; omega) | (simp; done) | (simp; omega)) _ | with_reducible refine b_step ?_ (by with_reducible assumption)))⟩
end Go.Proofs.Ytkpnjnkfbhomgaa

/- Books: what is held as a kind of elements; their pure models. -/
set_option linter.unusedVariables false
set_option linter.unusedSimpArgs false
namespace Go.Proofs.Ytkpnjnkfbhomgaa
open Go.RowKit
namespace LL
/-- what somebody holds, and was sent -/
structure Hd where
  name : ByteArray
  number : Int
  p : Path
  sent : Int
  n : Path
def He.m (u : He) : Hd := ⟨u.name, u.number, u.p, u.sent, u.n⟩
def hd0 : Hd := ⟨⟨#[]⟩, 0, ⟨0, 0, [], 0, 0⟩, 0, ⟨0, 0, [], 0, 0⟩⟩
def nthD (l : List Hd) (k : Nat) : Hd := l.getD k hd0
theorem nthD_m (us : List He) (k : Nat) : nthD (us.map He.m) k = (nthH us k).m := by
  unfold nthD nthH
  rw [List.getD_eq_getElem?_getD, List.getD_eq_getElem?_getD, List.getElem?_map]
  cases us[k]? <;> rfl
theorem sameH_m {u v : He} (h : v.m = u.m) : SameH u v := by
  simp only [He.m, Hd.mk.injEq] at h
  exact h
theorem m_sameH {u v : He} (h : SameH u v) : v.m = u.m := by
  obtain ⟨h1, h2, h3, h4, h5⟩ := h
  simp only [He.m, h1, h2, h3, h4, h5]
end LL
def heL : El LL.He where
  enc := heC
  sz := 13
  bytes := 144
  ty := 97
  d := LL.he0
  rd := RdH
  own := OwnH
  fp := FpH
  E := heE
  rd_mono h hb := h.mono hb
  own_rd h := h.rd
  own_lt h hk := h.lt _ hk
  own_move h hm := ⟨h.p.move fun k hk => hm k (.inl hk), h.n.move fun k hk => hm k (.inr hk), h.ne⟩
abbrev RdBk := RdR heL
abbrev OwnBk := OwnR heL
abbrev FpBk := FpR heL
section
variable {w w' : World} {A A' : Option Addr} {c c' : Nat} {us vs : List LL.He}
theorem nthH_mem {us : List LL.He} {k : Nat} (hk : k < us.length) : LL.nthH us k ∈ us := by
  unfold LL.nthH
  rw [List.getD_eq_getElem?_getD, List.getElem?_eq_getElem hk]
  exact List.getElem_mem hk
theorem mem_nthH {us : List LL.He} {u : LL.He} (h : u ∈ us) : ∃ k, k < us.length ∧ LL.nthH us k = u := by
  obtain ⟨k, hk, rfl⟩ := List.getElem_of_mem h
  refine ⟨k, hk, ?_⟩
  unfold LL.nthH
  rw [List.getD_eq_getElem?_getD, List.getElem?_eq_getElem hk]; rfl
theorem nthH_get {us : List LL.He} {k : Nat} (hk : k < us.length) : LL.nthH us k = us[k] := by
  unfold LL.nthH
  rw [List.getD_eq_getElem?_getD, List.getElem?_eq_getElem hk]; rfl
theorem RdHS.r (h : RdHS w A us.length c us) : RdBk w A c us := ⟨h.row, fun u hu => by obtain ⟨k, hk, rfl⟩ := mem_nthH hu; exact h.el k hk⟩
theorem rdHS (h : RdBk w A c us) : RdHS w A us.length c us := ⟨h.row, fun k hk => h.el _ (nthH_mem hk)⟩
theorem OwnHS.r (h : OwnHS w A us.length c us) : OwnBk w A c us := by
  refine ⟨h.row, fun u hu => ?_, fun u hu => ?_, ?_⟩
  · obtain ⟨k, hk, rfl⟩ := mem_nthH hu; exact h.el k hk
  · obtain ⟨k, hk, rfl⟩ := mem_nthH hu; exact h.ne k hk
  · rw [List.pairwise_iff_getElem]
    intro i j hi hj hij k h1 h2
    rw [← nthH_get hi] at h1
    rw [← nthH_get hj] at h2
    exact h.dis i j hij hj k h1 h2
theorem ownHS (h : OwnBk w A c us) : OwnHS w A us.length c us := by
  refine ⟨h.row, rfl, fun k hk => h.el _ (nthH_mem hk), fun k hk => h.ne _ (nthH_mem hk), fun i k hik hk j h1 h2 => ?_⟩
  rw [nthH_get (Nat.lt_trans hik hk)] at h1
  rw [nthH_get hk] at h2
  exact List.pairwise_iff_getElem.1 h.dis i k (Nat.lt_trans hik hk) hk hik j h1 h2
theorem fpHS (j : Nat) : FpHS A us.length c us j ↔ FpBk A c us j := by
  constructor
  · rintro (h | ⟨k, hk, h⟩)
    · exact .inl h
    · exact .inr ⟨_, nthH_mem hk, h⟩
  · rintro (h | ⟨u, hu, h⟩)
    · exact .inl h
    · obtain ⟨k, hk, rfl⟩ := mem_nthH hu
      exact .inr ⟨k, hk, h⟩
theorem sameHS (h : vs.map LL.He.m = us.map LL.He.m) : SameHS us vs := by
  have hl : vs.length = us.length := by simpa using congrArg List.length h
  refine ⟨hl, fun k hk => LL.sameH_m ?_⟩
  rw [← LL.nthD_m, ← LL.nthD_m, h]
theorem SameHS.m (h : SameHS us vs) : vs.map LL.He.m = us.map LL.He.m := by
  apply List.ext_getElem (by simpa using h.1)
  intro i h1 h2
  have hi : i < us.length := by simpa using h2
  have := LL.m_sameH (h.2 i hi)
  rw [nthH_get hi, nthH_get (by rw [h.1]; exact hi)] at this
  simpa using this
end
/-- a call has made a book of this content -/
def MkB (w : World) (last : Int) (hs : List LL.Hd) (en : Ending) (w' : World) : Prop := ∃ vs A' c', vs.map LL.He.m = hs ∧ en = .returned (.agg #[.int .i64 last, .slice A' vs.length c']) ∧ OwnBk w' A' c' vs ∧ (∀ j, FpBk A' c' vs j → w.heap.size ≤ j) ∧ Below w.heap.size w w'
theorem toBook_c (last : Int) (us : List LL.He) (A : Option Addr) (c : Nat) (w : World) (h : RdBk w A c us) : Calls Try.prog 18 #[.agg #[.int .i64 last, .slice A us.length c]] w (MkB w last (us.map LL.He.m)) := by
  refine (toLinkBook_c last us A c w (rdHS h)).mono ?_
  rintro e w' ⟨vs, A', c', hs, rfl, hO, hg, hb⟩
  have hl : vs.length = us.length := hs.1
  rw [← hl] at hO hg ⊢
  exact ⟨vs, A', c', hs.m, rfl, hO.r, fun j hj => hg j ((fpHS j).2 hj), hb⟩
theorem eqBook_c (last : Int) (us vs : List LL.He) (A A' : Option Addr) (c c' : Nat) (w : World) (hs : vs.map LL.He.m = us.map LL.He.m) (h : RdBk w A c us) (h' : RdBk w A' c' vs) : Calls Try.prog 20 #[.agg #[.int .i64 last, .slice A us.length c], .agg #[.int .i64 last, .slice A' vs.length c']] w fun e w' => e = .returned (.bool true) ∧ Below w.heap.size w w' := by
  have hS := sameHS hs
  have h2 := rdHS h'
  have hl := hS.1
  rw [hl] at h2 ⊢
  exact eqLinkBook_c last us vs A A' c c' w hS (rdHS h) h2
end Go.Proofs.Ytkpnjnkfbhomgaa
