/- AffineThrough: the law returns true. -/
import Derived.Test.YtbmbibjidpgbnaaThr5
import Derived.Test.YtbmbibjidpgbnaaApp1
namespace Go.Proofs.Ytbmbibjidpgbnaa
open Go.RowKit

/-- the first outcome that is not 0 -/
def bad (f : Nat → Int × Int × Int) : Nat → Int
  | 0 => 0
  | k + 1 => if bad f k = 0 then (f k).2.2 else bad f k
theorem bad_ok {f : Nat → Int × Int × Int} (k : Nat) (h : OkTo f k) : bad f k = 0 := by
  cases k with
  | zero => rfl
  | succ k => unfold bad; rw [if_pos (bad_ok k (fun j hj => h j (by omega)))]; exact h k (by omega)
theorem bad_at {f : Nat → Int × Int × Int} {k : Nat} (h : OkTo f k) (h0 : (f k).2.2 ≠ 0) (n : Nat) (hn : k < n) : bad f n = (f k).2.2 := by
  induction n with
  | zero => omega
  | succ n ih =>
    unfold bad
    by_cases e : k = n
    · subst e; rw [if_pos (bad_ok _ h)]
    · rw [ih (by omega), if_neg h0]
theorem AllPost.uni {f : Nat → Int × Int × Int} {n : Nat} {w : World} {e : Ending} {w' : World} (h : AllPost f n w e w') :
    Below w.heap.size w w' ∧ ∃ v, e = .returned (.tuple #[v, .int .i64 (bad f n)]) ∧ Pts w' v (if bad f n = 0 then n else 0) (fun j => (f j).1) (fun j => (f j).2.1) := by
  obtain ⟨hb, ⟨k, hk, hok, h0, rfl⟩ | ⟨hok, v, rfl, hp⟩⟩ := h
  · have e := bad_at hok h0 n hk
    refine ⟨hb, .slice none 0 0, by rw [e], ?_⟩
    rw [if_neg (by rw [e]; exact h0)]
    exact ⟨none, 0, rfl, by omega, fun h => by omega⟩
  · have e := bad_ok n hok
    refine ⟨hb, v, by rw [e], ?_⟩
    rw [if_pos e]; exact hp
set_option maxRecDepth 100000 in
set_option maxHeartbeats 6400000 in
theorem thru_law (a : Option Addr) (len cap : Nat) (ms : Nat → Mp) (v : Value) (n : Nat) (X Y : Nat → Int) (w : World) (hn43 : n ≤ 8796093022207) (hM : Maps w.heap.size w (.slice a len cap) len ms) (h : Pts w v n X Y) :
    Calls Try.prog 6 #[.slice a len cap, v] w (fun e w' => e = .returned (.bool true) ∧ Below w.heap.size w w') := by
  have N := Lib.hid hn43
  have H := Lib.hid h
  obtain ⟨p, c, rfl, _, hc⟩ := h
  have M := Lib.hid hM
  have C := Lib.hid hc
  clear hc hM hn43
  obtain ⟨f, hf⟩ : ∃ f : Nat → Int × Int × Int, f = fun j => goT (upto (rev len ms) len) (X j) (Y j) := ⟨_, rfl⟩
  have F : Hid (∀ j, goT (upto (rev len ms) len) (X j) (Y j) = f j) := Lib.hid (fun j => by rw [hf])
  have F2 := Lib.hid hf
  clear hf
  go_enter Try.func6, Try.ntmps6
  go_wp2_with fail
  refine (all_any a len cap ms _ n X Y w N.out M.out H.out).mono ?_
  intro e w1 he
  rw [← F2.out] at he
  obtain ⟨hb1, v1, rfl, hp1⟩ := he.uni
  obtain ⟨q, hq⟩ : ∃ q, q = bad f n := ⟨_, rfl⟩
  rw [← hq] at hp1 ⊢
  have B1 := Lib.hid hb1
  have P1 := Lib.hid hp1
  have Q := Lib.hid hq
  clear hb1 hp1 he hq
  go_wp2_with fail
  refine (rall_any a len cap ms _ n X Y w1 N.out (Maps.wide B1.out.size (Maps.below B1.out M.out)) (H.out.later B1.out)).mono ?_
  intro e w2 he
  rw [← F2.out] at he
  obtain ⟨hb2, v2, rfl, hp2⟩ := he.uni
  rw [← Q.out] at hp2 ⊢
  have B2 := Lib.hid (B1.out.trans (hb2.mono B1.out.size))
  have P2 := Lib.hid hp2
  have P1 := Lib.hid (P1.out.later hb2)
  clear hb2 hp2 he B1
  go_wp2_with fail
  go_loopw [9] (fun i wr => ∃ k : Nat, k ≤ n ∧ i = .int .i64 k ∧ Below w2.heap.size w2 wr) (fun i _ => n - (intOf i).toNat)
  case atStart => exact ⟨0, by omega, rfl, Below.refl _ _⟩
  case round =>
    obtain ⟨k, hk, rfl, hb⟩ := hrel
    have B := Lib.hid hb
    clear hb
    have BW := Lib.hid (B2.out.trans (B.out.mono B2.out.size))
    by_cases hlt : k < n
    · obtain ⟨g, off, rfl, hp⟩ := C.out (by omega)
      obtain ⟨c0, c1⟩ := hp.later BW.out k hlt
      have hk0 : (0 : Int) ≤ (k : Int) := by omega
      have hk3 : (k : Int) < (n : Int) := by omega
      obtain ⟨x, hx⟩ : ∃ x, x = X k := ⟨_, rfl⟩
      obtain ⟨y, hy⟩ : ∃ y, y = Y k := ⟨_, rfl⟩
      rw [← hx] at c0
      rw [← hy] at c1
      have hgr : g < wr.heap.size := World.block_lt_of_cell? wr _ c0
      have F1 : Hid (goT (upto (rev len ms) len) x y = f k) := Lib.hid (by rw [hx, hy]; exact F.out k)
      clear hp hx hy
      obtain ⟨q1, hq1⟩ : ∃ z, z = (f k).1 := ⟨_, rfl⟩
      obtain ⟨q2, hq2⟩ : ∃ z, z = (f k).2.1 := ⟨_, rfl⟩
      obtain ⟨q3, hq3⟩ : ∃ z, z = (f k).2.2 := ⟨_, rfl⟩
      have Q3 := Lib.hid (And.intro hq1 (And.intro hq2 hq3))
      clear hq1 hq2 hq3
      go_wp2_with fail
      refine (through_any a len cap ms x y wr (Maps.wide BW.out.size (Maps.below BW.out M.out))).mono ?_
      rintro e w3 ⟨rfl, hb⟩
      rw [F1.out, ← Q3.out.1, ← Q3.out.2.1, ← Q3.out.2.2]
      have d0 := cell_later hb c0
      have d1 := cell_later hb c1
      have B3 := Lib.hid (B.out.trans (hb.mono B.out.size))
      have BV := Lib.hid (BW.out.trans (hb.mono BW.out.size))
      clear hb c0 c1 B BW
      have hg : g < w3.heap.size := World.block_lt_of_cell? w3 _ d0
      go_wp2_with fail
      obtain ⟨w4, hw4⟩ : ∃ w4, w4 = w3.alloc (.cells #[.int .i64 q1, .int .i64 q2] 25) := ⟨_, rfl⟩
      rw [← hw4]
      have e0 : w4.cell? ⟨w3.heap.size, 0, none⟩ = some (.int .i64 q1) := by subst hw4; rw [World.cell?_alloc_new]; rfl
      have e1 : w4.cell? ⟨w3.heap.size, 1, none⟩ = some (.int .i64 q2) := by subst hw4; rw [World.cell?_alloc_new]; rfl
      have B34 : Below w3.heap.size w3 w4 := by subst hw4; exact (Below.refl _ _).alloc (Nat.le_refl _) _
      have B4 := Lib.hid (B3.out.trans (B34.mono B3.out.size))
      have BX := Lib.hid (BV.out.trans (B34.mono BV.out.size))
      clear hw4 B34 d0 d1 B3 BV
      refine (rthrough_any a len cap ms x y w4 (Maps.wide BX.out.size (Maps.below BX.out M.out))).mono ?_
      rintro e w5 ⟨rfl, hb⟩
      rw [F1.out, ← Q3.out.1, ← Q3.out.2.1, ← Q3.out.2.2]
      have e0 := cell_later hb e0
      have e1 := cell_later hb e1
      have hg3 : w3.heap.size < w5.heap.size := World.block_lt_of_cell? w5 _ e0
      have B5 := Lib.hid (B4.out.trans (hb.mono B4.out.size))
      clear hb B4 BX
      have s5 := B5.out.size
      go_wp2_with fail
      have BB := B5.out
      refine ⟨⟨k + 1, by omega, by go_num, by ((repeat' (first | with_reducible exact Below.refl _ _ | with_reducible assumption | with_reducible refine Below.drew ?_ | with_reducible refine Below.alloc ?_ ?_ _ | with_reducible refine Below.setCell ?_ ?_ _)) <;> (first | omega | (simp; done) | (simp; omega)))⟩, by (first | (simp [intOf]; done) | (simp [intOf]; omega) | (simp only [intOf]; omega))⟩
    · have ek : k = n := by omega
      subst ek
      have B3 := Lib.hid (B.out)
      have PA := Lib.hid (P1.out.later B.out)
      have PB := Lib.hid (P2.out.later B.out)
      go_wp2_with fail
      refine (same_any _ _ _ _ _ wr PA.out PB.out).mono ?_
      rintro e w3 ⟨rfl, hb3⟩
      have B3 := Lib.hid (BW.out.trans (hb3.mono BW.out.size))
      clear hb3
      go_wp2_with (go_at_call 20; refine (livesA _).mono ?_; rintro e w4 ⟨rfl, hb4⟩)
      refine bodyPost_ret (v := .bool true) ?_ rfl ⟨rfl, B3.out.trans (hb4.mono B3.out.size)⟩
      simp [results, Try.results6, go_sem]
end Go.Proofs.Ytbmbibjidpgbnaa
