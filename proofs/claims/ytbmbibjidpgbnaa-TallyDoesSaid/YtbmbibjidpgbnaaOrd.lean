/- The law TallyOrder over its contracts. -/
import Derived.Test.YtbmbibjidpgbnaaTal
namespace Go.Proofs.Ytbmbibjidpgbnaa
open Go.RowKit

def zeros : Nat → Int := fun _ => 0
abbrev T14 : Obj := .cells #[.int .i64 0, .int .i64 0, .int .i64 0, .int .i64 0, .int .i64 0, .int .i64 0, .int .i64 0, .int .i64 0, .int .i64 0, .int .i64 0, .int .i64 0, .int .i64 0, .int .i64 0, .int .i64 0] 90
theorem isTally_new (w : World) : IsTally (w.alloc T14) w.heap.size zeros zeros := fun k hk => by
  obtain rfl | rfl | rfl | rfl | rfl | rfl | rfl : k = 0 ∨ k = 1 ∨ k = 2 ∨ k = 3 ∨ k = 4 ∨ k = 5 ∨ k = 6 := by omega
  all_goals exact ⟨World.cell?_alloc_new _ _ _ _, World.cell?_alloc_new _ _ _ _, by simp [go_sem], by simp [go_sem]⟩
theorem IsTally.below {B g : Nat} {w w' : World} {N P : Nat → Int} (h : IsTally w g N P) (hB : Below B w w') (hg : g < B) : IsTally w' g N P := fun k hk => by
  obtain ⟨h1, h2, h3, h4⟩ := h k hk
  exact ⟨by rw [hB.cell (p := ⟨g, _, none⟩) hg]; exact h1, by rw [hB.cell (p := ⟨g, _, none⟩) hg]; exact h2, by rw [hB.frozen (p := ⟨g, _, none⟩) hg]; exact h3, by rw [hB.frozen (p := ⟨g, _, none⟩) hg]; exact h4⟩

/-- lives: a tally counts -/
theorem lives43 (w : World) : Calls Try.prog 24 #[] w fun e w' => e = .returned (.bool true) ∧ Below w.heap.size w w' := by
  have hn := isTally_new w
  go_enter Try.func24, Try.ntmps24
  go_wp2_with (first | (go_at_call 21; refine (new_any _).mono ?_; rintro e w' ⟨rfl, rfl⟩))
  refine (add_t w.heap.size zeros zeros 0 3 _ hn).mono ?_
  rintro e w1 ⟨rfl, h1, o1⟩
  have g1 : addV zeros 0 3 = 3 := by simp [addV, zeros, wrap64]
  have g2 : addN zeros 0 3 = upd zeros 0 3 := by simp [addN, zeros, wrap64]
  have g3 : addP zeros zeros 0 3 = upd zeros 0 3 := by simp [addP, zeros, wrap64]
  rw [g2, g3] at h1
  rw [g1]
  clear g1 g2 g3 hn
  have H1 := Lib.hid h1
  clear h1
  go_wp2_with fail
  refine (add_t w.heap.size _ _ 0 (-1) _ H1.out).mono ?_
  rintro e w2 ⟨rfl, h2, o2⟩
  have g1 : addV (upd zeros 0 3) 0 (-1) = 2 := by simp [addV, upd, wrap64]
  have g3 : addP (upd zeros 0 3) (upd zeros 0 3) 0 (-1) = upd zeros 0 3 := by simp [addP, upd, wrap64]
  rw [g3] at h2
  rw [g1]
  clear g1 g3
  have H2 := Lib.hid h2
  clear h2
  go_wp2_with fail
  refine (peak_t w.heap.size _ _ 0 _ H2.out).mono ?_
  rintro e w' ⟨rfl, rfl⟩
  have g1 : getV (upd zeros 0 3) 0 = 3 := by simp [getV, upd]
  rw [g1]
  clear g1
  go_wp2_with fail
  go_ret
  exact ⟨rfl, ((Below.refl _ _).alloc (Nat.le_refl _) _).trans ((o1.trans o2).below (Nat.le_refl _))⟩

/-- the count at k of a sum -/
def gs (k s : Int) : Int := if 0 ≤ k ∧ k < 7 then wrap64 s else 0
theorem wrap_wrap (a b : Int) : wrap64 (wrap64 a + b) = wrap64 (a + b) := by unfold wrap64; omega
theorem gs_zero (k : Int) : getV zeros k = gs k 0 := by unfold getV gs zeros wrap64; split <;> simp
theorem gs_step {N : Nat → Int} {k s : Int} (n : Int) (h : getV N k = gs k s) : getV (addN N k n) k = gs k (s + n) := by
  by_cases hk : 0 ≤ k ∧ k < 7
  · have e1 : getV N k = N k.toNat := if_pos hk
    have e2 : gs k s = wrap64 s := if_pos hk
    have e3 : addN N k n = upd N k.toNat (wrap64 (N k.toNat + n)) := if_pos hk
    have e4 : gs k (s + n) = wrap64 (s + n) := if_pos hk
    have e5 : getV (upd N k.toNat (wrap64 (N k.toNat + n))) k = upd N k.toNat (wrap64 (N k.toNat + n)) k.toNat := if_pos hk
    have e6 : upd N k.toNat (wrap64 (N k.toNat + n)) k.toNat = wrap64 (N k.toNat + n) := if_pos rfl
    rw [e3, e4, e5, e6, ← e1, h, e2, wrap_wrap]
  · have e1 : ∀ N', getV N' k = 0 := fun _ => if_neg hk
    have e4 : gs k (s + n) = 0 := if_neg hk
    rw [e1, e4]
/-- the sum of z from i on, n many -/
def sumFrom (z : Nat → Int) (i : Nat) : Nat → Int
  | 0 => 0
  | n + 1 => sumFrom z i n + z (i + n)
theorem sumFrom_head (z : Nat → Int) (i n : Nat) : sumFrom z i (n + 1) = z i + sumFrom z (i + 1) n := by
  induction n with
  | zero => simp [sumFrom]
  | succ n ih =>
    rw [sumFrom, ih, sumFrom]
    rw [show i + 1 + n = i + (n + 1) by omega]
    omega

def Up (z : Nat → Int) (k : Int) (t u : Nat) (w0 wr : World) (j : Nat) : Prop := ∃ N P, IsTally wr t N P ∧ getV N k = gs k (sumFrom z 0 j) ∧ IsTally wr u zeros zeros ∧ Below w0.heap.size w0 wr ∧ u < wr.heap.size
def Down (z : Nat → Int) (k : Int) (t u : Nat) (w0 wr : World) (m i : Nat) : Prop := ∃ N P N' P', IsTally wr t N P ∧ getV N k = gs k (sumFrom z 0 m) ∧ IsTally wr u N' P' ∧ getV N' k = gs k (sumFrom z i (m - i)) ∧ Below w0.heap.size w0 wr ∧ u < wr.heap.size

theorem Up.step {z : Nat → Int} {k : Int} {t u : Nat} {w0 wr w1 : World} {j : Nat} {N P : Nat → Int} (h1 : IsTally w1 t (addN N k (z j)) (addP N P k (z j))) (h2 : getV N k = gs k (sumFrom z 0 j))
    (h3 : IsTally wr u zeros zeros) (h4 : Below w0.heap.size w0 wr) (h5 : u < wr.heap.size) (ho : Only t wr w1) (htu : u ≠ t) (ht : w0.heap.size ≤ t) : Up z k t u w0 w1 (j + 1) :=
  ⟨_, _, h1, by rw [gs_step _ h2, sumFrom, Nat.zero_add], h3.only ho htu, h4.trans (ho.below ht), by rw [ho.size]; exact h5⟩
theorem Down.step {z : Nat → Int} {k : Int} {t u : Nat} {w0 wr w1 : World} {m i : Nat} (hi : i < m) {N P N' P' : Nat → Int} (h0 : IsTally wr t N P) (h01 : getV N k = gs k (sumFrom z 0 m)) (h1 : IsTally w1 u (addN N' k (z i)) (addP N' P' k (z i)))
    (h2 : getV N' k = gs k (sumFrom z (i + 1) (m - (i + 1)))) (h4 : Below w0.heap.size w0 wr) (h5 : u < wr.heap.size) (ho : Only u wr w1) (htu : t ≠ u) (ht : w0.heap.size ≤ u) : Down z k t u w0 w1 m i :=
  ⟨_, _, _, _, h0.only ho htu, h01, h1, by rw [gs_step _ h2, show m - i = (m - (i + 1)) + 1 by omega, sumFrom_head, Int.add_comm], h4.trans (ho.below ht), by rw [ho.size]; exact h5⟩

theorem Down.start {z : Nat → Int} {k : Int} {t u : Nat} {w0 wr : World} {m : Nat} (h : Up z k t u w0 wr m) : Down z k t u w0 wr m m := by
  obtain ⟨N, P, h1, h2, h3, h4, h5⟩ := h
  exact ⟨N, P, _, _, h1, h2, h3, by rw [Nat.sub_self]; exact gs_zero k, h4, h5⟩
def Left (z : Nat → Int) (k : Int) (t u : Nat) (w0 : World) (m : Nat) (v : Value) (wr : World) : Prop :=
  (v = .int .i64 (-1) ∧ Down z k t u w0 wr m 0) ∨ (∃ p : Nat, p < m ∧ v = .int .i64 p ∧ Down z k t u w0 wr m (p + 1))
theorem Left.of (z : Nat → Int) (k : Int) (t u : Nat) (w0 : World) (m p : Nat) (wr : World) (hp : p ≤ m) (h : Down z k t u w0 wr m p) : Left z k t u w0 m (.int .i64 ((p : Int) - 1)) wr := by
  cases p with
  | zero => exact .inl ⟨rfl, h⟩
  | succ p => exact .inr ⟨p, by omega, by congr 1; omega, h⟩

set_option maxHeartbeats 1600000 in
theorem order_any (a : Option Addr) (len cap : Nat) (z : Nat → Int) (k : Int) (w : World) (hl : len ≤ 9223372036854775807)
    (ha : ∀ j, j < len → ∃ b off, a = some ⟨b, off, none⟩ ∧ b < w.heap.size) (hc : ∀ b off, a = some ⟨b, off, none⟩ → ∀ j, j < len → w.cell? ⟨b, off + j, none⟩ = some (.int .i64 (z j))) :
    Calls Try.prog 4 #[.slice a len cap, .int .i64 k] w fun e w' => e = .returned (.bool true) ∧ Below w.heap.size w w' := by
  have A := Lib.hid (And.intro ha hc)
  have h0 : Up z k w.heap.size (w.heap.size + 1) w ((w.alloc T14).alloc T14) 0 := by
    have b0 : Below w.heap.size w (w.alloc T14) := (Below.refl _ _).alloc (Nat.le_refl _) _
    refine ⟨zeros, zeros, (isTally_new w).below ((Below.refl (w.heap.size + 1) (w.alloc T14)).alloc (by simp) T14) (by omega), gs_zero k, ?_, b0.alloc (by simp) _, by simp⟩
    have := isTally_new (w.alloc T14)
    simpa using this
  have H0 := Lib.hid h0
  obtain ⟨m, hm⟩ : ∃ m : Nat, m = min len 100 := ⟨_, rfl⟩
  have m1 : m ≤ len := by omega
  have m2 : m ≤ 100 := by omega
  have M := Lib.hid hm
  clear ha hc h0 hm
  go_enter Try.func4, Try.ntmps4
  go_wp2_with (first | (go_at_call 21; refine (new_any _).mono ?_; rintro e w' ⟨rfl, rfl⟩))
  go_loopw [7] (fun i wr => ∃ j : Nat, j ≤ m ∧ i = .int .i64 j ∧ Up z k w.heap.size (w.heap.size + 1) w wr j) (fun i _ => m - (intOf i).toNat)
  case atStart => exact ⟨0, Nat.zero_le _, rfl, H0.out⟩
  case round =>
    obtain ⟨j, hj, rfl, hup⟩ := hrel
    by_cases hlt : j < m
    · obtain ⟨b, off, rfl, hb⟩ := A.out.1 j (by omega)
      obtain ⟨N, P, u1, u2, u3, u4, u5⟩ := hup
      have hcell := (u4.cell (p := ⟨b, off + j, none⟩) hb).trans (A.out.2 b off rfl j (by omega))
      have hj1 : j < len := by omega
      have hj2 : j < 100 := by omega
      have U := Lib.hid (And.intro u2 (And.intro u3 (And.intro u4 u5)))
      have U1 := Lib.hid u1
      clear u1 u2 u3 u4 u5
      go_wp2_with fail
      refine (add_t _ N P k (z j) _ U1.out).mono ?_
      rintro e w1 ⟨rfl, h1, o1⟩
      obtain ⟨u2, u3, u4, u5⟩ := U.out
      have S := Lib.hid (Up.step h1 u2 u3 u4 u5 o1 (by omega) (Nat.le_refl _))
      clear h1 u2 u3 u4 u5 o1
      go_wp2_with fail
      go_roundw
      case rel => exact ⟨j + 1, by omega, by go_num, S.out⟩
      case measure => simp [intOf]; omega
    · obtain rfl : j = m := by omega
      clear hlt
      have hmm : (len ≤ j ∧ j ≤ 100) ∨ (j = 100 ∧ j < len) := by have := M.out; omega
      rcases hmm with ⟨hl1, hl2⟩ | ⟨rfl, hl2⟩
      · have U := Lib.hid hup
        clear hup hj H0
        go_wp2_with fail
        go_loopw [8] (fun i wr => Left z k w.heap.size (w.heap.size + 1) w j i wr) (fun i _ => (intOf i + 1).toNat)
        case atStart =>
          have e : j = len := by omega
          refine Left.of z k _ _ w j len _ (by omega) ?_
          rw [← e]; exact Down.start U.out
        case round =>
          rcases hrel with ⟨rfl, hd⟩ | ⟨p, hp, rfl, hd⟩
          · obtain ⟨N, P, N', P', d1, d2, d3, d4, d5, d6⟩ := hd
            have D := Lib.hid (And.intro d2 (And.intro d4 (And.intro d5 d6)))
            have D1 := Lib.hid d1
            have D3 := Lib.hid d3
            clear d1 d2 d3 d4 d5 d6
            go_wp2_with fail
            refine (get_t _ N P k _ D1.out).mono ?_
            rintro e w' ⟨rfl, rfl⟩
            go_wp2_with fail
            refine (get_t _ N' P' k _ D3.out).mono ?_
            rintro e w' ⟨rfl, rfl⟩
            obtain ⟨d2, d4, d5, d6⟩ := D.out
            rw [d2, d4, Nat.sub_zero]
            clear d2 d4 d5 d6
            go_wp2_with fail
            refine (lives43 _).mono ?_
            rintro e w1 ⟨rfl, hb1⟩
            have B1 := Lib.hid hb1
            clear hb1
            go_wp2_with fail
            go_ret
            obtain ⟨d2, d4, d5, d6⟩ := D.out
            exact ⟨rfl, d5.trans (B1.out.mono d5.size)⟩
          · obtain ⟨b, off, rfl, hb⟩ := A.out.1 p (by omega)
            obtain ⟨N, P, N', P', d1, d2, d3, d4, d5, d6⟩ := hd
            have hcell := (d5.cell (p := ⟨b, off + p, none⟩) hb).trans (A.out.2 b off rfl p (by omega))
            have hj1 : p < len := by omega
            have D := Lib.hid (And.intro d1 (And.intro d2 (And.intro d4 (And.intro d5 d6))))
            have D3 := Lib.hid d3
            clear d1 d2 d3 d4 d5 d6
            go_wp2_with fail
            refine (add_t _ N' P' k (z p) _ D3.out).mono ?_
            rintro e w1 ⟨rfl, h1, o1⟩
            obtain ⟨d1, d2, d4, d5, d6⟩ := D.out
            have S := Lib.hid (Left.of z k w.heap.size (w.heap.size + 1) w j p _ (by omega) (Down.step hp d1 d2 h1 d4 d5 d6 o1 (by omega) (by omega)))
            clear h1 d1 d2 d4 d5 d6 o1
            go_wp2_with fail
            go_roundw
            case rel => exact S.out
            case measure => first | (simp [intOf]; done) | (simp [intOf]; omega)
      · have U := Lib.hid hup
        clear hup hj H0
        go_wp2_with fail
        go_loopw [8] (fun i wr => Left z k w.heap.size (w.heap.size + 1) w 100 i wr) (fun i _ => (intOf i + 1).toNat)
        case atStart => exact Left.of z k _ _ w 100 100 _ (Nat.le_refl _) (Down.start U.out)
        case round =>
          rcases hrel with ⟨rfl, hd⟩ | ⟨p, hp, rfl, hd⟩
          · obtain ⟨N, P, N', P', d1, d2, d3, d4, d5, d6⟩ := hd
            have D := Lib.hid (And.intro d2 (And.intro d4 (And.intro d5 d6)))
            have D1 := Lib.hid d1
            have D3 := Lib.hid d3
            clear d1 d2 d3 d4 d5 d6
            go_wp2_with fail
            refine (get_t _ N P k _ D1.out).mono ?_
            rintro e w' ⟨rfl, rfl⟩
            go_wp2_with fail
            refine (get_t _ N' P' k _ D3.out).mono ?_
            rintro e w' ⟨rfl, rfl⟩
            obtain ⟨d2, d4, d5, d6⟩ := D.out
            rw [d2, d4, Nat.sub_zero]
            clear d2 d4 d5 d6
            go_wp2_with fail
            refine (lives43 _).mono ?_
            rintro e w1 ⟨rfl, hb1⟩
            have B1 := Lib.hid hb1
            clear hb1
            go_wp2_with fail
            go_ret
            obtain ⟨d2, d4, d5, d6⟩ := D.out
            exact ⟨rfl, d5.trans (B1.out.mono d5.size)⟩
          · obtain ⟨b, off, rfl, hb⟩ := A.out.1 p (by omega)
            obtain ⟨N, P, N', P', d1, d2, d3, d4, d5, d6⟩ := hd
            have hcell := (d5.cell (p := ⟨b, off + p, none⟩) hb).trans (A.out.2 b off rfl p (by omega))
            have hj1 : p < len := by omega
            have D := Lib.hid (And.intro d1 (And.intro d2 (And.intro d4 (And.intro d5 d6))))
            have D3 := Lib.hid d3
            clear d1 d2 d3 d4 d5 d6
            go_wp2_with fail
            refine (add_t _ N' P' k (z p) _ D3.out).mono ?_
            rintro e w1 ⟨rfl, h1, o1⟩
            obtain ⟨d1, d2, d4, d5, d6⟩ := D.out
            have S := Lib.hid (Left.of z k w.heap.size (w.heap.size + 1) w 100 p _ (by omega) (Down.step hp d1 d2 h1 d4 d5 d6 o1 (by omega) (by omega)))
            clear h1 d1 d2 d4 d5 d6 o1
            go_wp2_with fail
            go_roundw
            case rel => exact S.out
            case measure => first | (simp [intOf]; done) | (simp [intOf]; omega)
end Go.Proofs.Ytbmbibjidpgbnaa
