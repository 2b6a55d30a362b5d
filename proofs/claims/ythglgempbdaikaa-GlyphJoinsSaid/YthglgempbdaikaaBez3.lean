/- Contracts of package bez: Pieces. -/
import Derived.Test.YthglgempbdaikaaBez2
import Derived.BigQuiet
namespace Go.Proofs.Ythglgempbdaikaa
open Go.RowKit

theorem absI_nn (n : Int) : 0 ≤ absI n := by unfold absI; split <;> omega
theorem bendI_le {a b c : Int} (ha : -8388607 ≤ a ∧ a ≤ 8388607) (hb : -8388607 ≤ b ∧ b ≤ 8388607) (hc : -8388607 ≤ c ∧ c ≤ 8388607) : 0 ≤ bendI a b c ∧ bendI a b c ≤ 40000000 := by unfold bendI absI; split <;> omega
def max3 (a b c : Int) : Int := if (if a < b then b else a) < c then c else (if a < b then b else a)
/-- the greatest bend of the first p threes of points -/
def dTo (X Y : Nat → Int) : Nat → Int
  | 0 => 0
  | p + 1 => max3 (dTo X Y p) (bendI (X p) (X (p + 1)) (X (p + 2))) (bendI (Y p) (Y (p + 1)) (Y (p + 2)))
/-- of how many pieces: from k on, at most fuel more -/
def pcFrom (d : Int) : Nat → Nat → Nat
  | 0, k => k
  | f + 1, k => if 16 * (k : Int) * k < d then pcFrom d f (k + 1) else k
def pc (d : Int) : Nat := pcFrom d 31 1
theorem pcFrom_le (d : Int) (f k : Nat) : k ≤ pcFrom d f k ∧ pcFrom d f k ≤ k + f := by
  induction f generalizing k with
  | zero => exact ⟨Nat.le_refl _, Nat.le_refl _⟩
  | succ f ih =>
    unfold pcFrom
    split
    · have := ih (k + 1); omega
    · omega
theorem pc_le (d : Int) : 1 ≤ pc d ∧ pc d ≤ 32 := pcFrom_le d 31 1
theorem within_iff {n m : Int} (h : within n m = true) : -m ≤ n ∧ n ≤ m := by simpa [within] using h
theorem fits_iff {x y : Int} (h : fits x y = true) : (-8388607 ≤ x ∧ x ≤ 8388607) ∧ (-8388607 ≤ y ∧ y ≤ 8388607) := by
  unfold fits at h
  rw [Bool.and_eq_true] at h
  exact ⟨within_iff h.1, within_iff h.2⟩
theorem dTo_le {X Y : Nat → Int} {n p : Nat} (hp : p + 2 ≤ n ∨ p = 0) (h : fitsTo X Y n = true) : 0 ≤ dTo X Y p ∧ dTo X Y p ≤ 40000000 := by
  induction p with
  | zero => exact ⟨Int.le_refl _, by unfold dTo; omega⟩
  | succ p ih =>
    have hi := ih (by omega)
    obtain ⟨a1, a2⟩ := fits_iff (fitsTo_at (k := p) (by omega) h)
    obtain ⟨b1, b2⟩ := fits_iff (fitsTo_at (k := p + 1) (by omega) h)
    obtain ⟨c1, c2⟩ := fits_iff (fitsTo_at (k := p + 2) (by omega) h)
    have e1 := bendI_le a1 b1 c1
    have e2 := bendI_le a2 b2 c2
    unfold dTo max3
    repeat' split
    all_goals omega
theorem below_drewN {B : Nat} {a w : World} (h : Below B a w) (m : Nat) : Below B a (w.drewN m) := ⟨h.os, h.tape, h.output, h.size, h.block⟩
def piecesN (X Y : Nat → Int) (n : Nat) : Nat := if fitsTo X Y n = true then pc (dTo X Y (n - 2)) else 0

set_option maxHeartbeats 4000000 in
theorem pieces_any (g off n cap : Nat) (X Y : Nat → Int) (w : World) (hn : n ≤ 1000) (h : PtAt w g off n X Y) :
    Calls Try.prog 27 #[.slice (some ⟨g, off, none⟩) n cap] w fun e w' => e = .returned (.int .i64 (piecesN X Y n)) ∧ Below w.heap.size w w' := by
  cases hfit : fitsTo X Y n
  · have hv : piecesN X Y n = 0 := by unfold piecesN; rw [hfit]; rfl
    rw [hv]; clear hv
    have HH := Lib.hid h
    clear h
    go_enter Try.func27, Try.ntmps27
    go_wp2_with fail
    refine (bfits_any g off n cap X Y w hn HH.out).mono ?_
    rintro e w1 ⟨rfl, hb⟩
    rw [hfit]
    go_wp2_with fail
    go_ret
    exact ⟨rfl, hb⟩
  · have hv : piecesN X Y n = pc (dTo X Y (n - 2)) := by unfold piecesN; rw [if_pos hfit]
    rw [hv]; clear hv
    have HF := Lib.hid hfit
    have HH := Lib.hid h
    clear h
    go_enter Try.func27, Try.ntmps27
    go_wp2_with fail
    refine (bfits_any g off n cap X Y w hn HH.out).mono ?_
    rintro e w1 ⟨rfl, hb⟩
    rw [hfit]
    clear hfit
    have HH1 := Lib.hid (HH.out.later hb)
    have HB := Lib.hid hb
    clear hb HH
    go_wp2_with fail
    go_loopw [3, 4] (fun d i wr => ∃ p : Nat, (p + 2 ≤ n ∨ p = 0) ∧ i = .int .i64 (p + 2 : Nat) ∧ d = .int .i64 (dTo X Y p) ∧ Below w1.heap.size w1 wr) (fun _ i _ => n + 2 - (intOf i).toNat)
    case atStart => exact ⟨0, Or.inr rfl, rfl, rfl, Below.refl _ _⟩
    case round =>
      obtain ⟨p, hp, rfl, rfl, hb⟩ := hrel
      by_cases hlt : p + 2 < n
      · obtain ⟨c0, c1⟩ := HH1.out p (by omega)
        obtain ⟨c2, c3⟩ := HH1.out (p + 1) (by omega)
        obtain ⟨c4, c5⟩ := HH1.out (p + 2) (by omega)
        have d0 := cell_later hb c0
        have d1 := cell_later hb c1
        have d2 := cell_later hb c2
        have d3 := cell_later hb c3
        have d4 := cell_later hb c4
        have d5 := cell_later hb c5
        clear c0 c1 c2 c3 c4 c5
        obtain ⟨a1, a2⟩ := fits_iff (fitsTo_at (k := p) (by omega) HF.out)
        obtain ⟨b1, b2⟩ := fits_iff (fitsTo_at (k := p + 1) (by omega) HF.out)
        obtain ⟨e1, e2⟩ := fits_iff (fitsTo_at (k := p + 2) (by omega) HF.out)
        have D := Lib.hid (dTo_le (p := p) (by omega) HF.out)
        have HB1 := Lib.hid hb
        clear hb
        obtain ⟨x0, hx0⟩ : ∃ x, x = X p := ⟨_, rfl⟩
        obtain ⟨x1, hx1⟩ : ∃ x, x = X (p + 1) := ⟨_, rfl⟩
        obtain ⟨x2, hx2⟩ : ∃ x, x = X (p + 2) := ⟨_, rfl⟩
        obtain ⟨y0, hy0⟩ : ∃ x, x = Y p := ⟨_, rfl⟩
        obtain ⟨y1, hy1⟩ : ∃ x, x = Y (p + 1) := ⟨_, rfl⟩
        obtain ⟨y2, hy2⟩ : ∃ x, x = Y (p + 2) := ⟨_, rfl⟩
        obtain ⟨dd, hdd⟩ : ∃ x, x = dTo X Y p := ⟨_, rfl⟩
        have hnext : dTo X Y (p + 1) = max3 dd (bendI x0 x1 x2) (bendI y0 y1 y2) := by subst hx0 hx1 hx2 hy0 hy1 hy2 hdd; rfl
        have HN := Lib.hid hnext
        clear hnext
        rw [← hx0] at d0 a1
        rw [← hy0] at d1 a2
        rw [← hx1] at d2 b1
        rw [← hy1] at d3 b2
        rw [← hx2] at d4 e1
        rw [← hy2] at d5 e2
        rw [← hdd] at D
        rw [← hdd]
        clear hx0 hx1 hx2 hy0 hy1 hy2 hdd
        go_wp2_with fail

        go_quiet (first | (go_at_call 40; exact Calls.quiet_of_same ((bend_any _ _ _ _ (by omega) (by omega) (by omega)).mono (by rintro e w2 ⟨rfl, rfl⟩; exact ⟨rfl, rfl⟩))))
        go_wp2_with fail
        go_roundw
        case rel =>
          refine ⟨p + 1, by omega, by go_num, by rw [HN.out]; rfl, ?_⟩
          exact below_drewN HB1.out nq
        case measure => simp [intOf]; omega
      · have hpn : p = n - 2 := by omega
        have D := dTo_le hp HF.out
        have HB1 := Lib.hid hb
        clear hb
        obtain ⟨dd, hdd⟩ : ∃ x, x = dTo X Y p := ⟨_, rfl⟩
        rw [← hdd] at D ⊢
        have HQ : Hid (dTo X Y (n - 2) = dd) := Lib.hid (by rw [hdd, hpn])
        clear hdd hpn
        obtain ⟨D1, D2⟩ := D
        obtain ⟨ii, hii⟩ : ∃ ii : Int, ii = ((p + 2 : Nat) : Int) := ⟨_, rfl⟩
        rw [← hii]
        have hi1 : ¬ ii < (n : Int) := by omega
        have hi2 : ii ≤ 100000 := by omega
        clear hii
        go_wp2_with fail
        go_loopw [5] (fun i wz => ∃ k : Nat, 1 ≤ k ∧ k ≤ 32 ∧ i = .int .i64 k ∧ pcFrom dd (32 - k) k = pc dd ∧ Below w1.heap.size w1 wz) (fun i _ => 33 - (intOf i).toNat)
        case atStart => exact ⟨1, by omega, by omega, rfl, rfl, HB1.out⟩
        case round =>
          obtain ⟨k, hk1, hk2, rfl, hpc, hbz⟩ := hrel
          have HZ := Lib.hid hbz
          clear hbz
          have HP := Lib.hid hpc
          clear hpc
          by_cases hk : k < 32
          · have m1 := mul_bd (a := 16 * (k : Int)) (x := (k : Int)) (A := 512) (X := 32) (by omega) (by omega)
            simp only [Int.reduceMul, Int.reduceNeg] at m1
            obtain ⟨m11, m12⟩ := m1
            by_cases hd : 16 * (k : Int) * k < dd
            · go_wp2_with fail
              go_roundw
              case rel =>
                refine ⟨k + 1, by omega, by omega, by go_num, ?_, HZ.out⟩
                have h := HP.out
                have e : 32 - k = (32 - (k + 1)) + 1 := by omega
                rw [e] at h
                unfold pcFrom at h
                rw [if_pos hd] at h
                exact h
              case measure => simp [intOf]; omega
            · go_wp2_with fail
              go_ret
              refine ⟨?_, ?_⟩
              · have h := HP.out
                have e : 32 - k = (32 - (k + 1)) + 1 := by omega
                rw [e] at h
                unfold pcFrom at h
                rw [if_neg (by omega)] at h
                rw [HQ.out, ← h]; rfl
              · exact Below.trans HB.out (HZ.out.mono HB.out.size)
          · have ek : k = 32 := by omega
            subst ek
            go_wp2_with fail
            go_ret
            refine ⟨?_, ?_⟩
            · have h := HP.out
              rw [HQ.out, ← h]; rfl
            · exact Below.trans HB.out (HZ.out.mono HB.out.size)
end Go.Proofs.Ythglgempbdaikaa
