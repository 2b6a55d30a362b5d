/- Contracts of package bez: curve. -/
import Derived.Test.YthglgempbdaikaaBez3
import Derived.Test.YthglgempbdaikaaSl
namespace Go.Proofs.Ythglgempbdaikaa
open Go.RowKit

/-- the weight of point j, m points, k of n of the way -/
def wt (m k n j : Nat) : Int :=
  if m = 3 then (if j = 0 then ((n : Int) - k) * ((n : Int) - k) else if j = 1 then 2 * ((n : Int) - k) * k else if j = 2 then (k : Int) * k else 0)
  else (if j = 0 then ((n : Int) - k) * ((n : Int) - k) * ((n : Int) - k) else if j = 1 then 3 * ((n : Int) - k) * ((n : Int) - k) * k else if j = 2 then 3 * ((n : Int) - k) * k * k else (k : Int) * k * k)
def byI (m n : Nat) : Int := if m = 3 then (n : Int) * n else (n : Int) * n * n
theorem wei_any (m k n : Nat) (w : World) (hm : m = 3 ∨ m = 4) (hk : k ≤ n) (hn : n ≤ 32) :
    Calls Try.prog 70 #[.int .i64 ((m : Int) - 1), .int .i64 k, .int .i64 n] w fun e w' => e = .returned (.tuple #[.agg #[.int .i64 (wt m k n 0), .int .i64 (wt m k n 1), .int .i64 (wt m k n 2), .int .i64 (wt m k n 3)], .int .i64 (byI m n)]) ∧ Below w.heap.size w w' := by
  rcases hm with rfl | rfl
  · exact wei2_any k n w hk hn
  · exact wei3_any k n w hk hn
theorem wt_le (m k n j : Nat) (hk : k ≤ n) (hn : n ≤ 32) : -98304 ≤ wt m k n j ∧ wt m k n j ≤ 98304 := by
  obtain ⟨l, hl⟩ : ∃ l : Int, l = (n : Int) - k := ⟨_, rfl⟩
  have hl0 : -32 ≤ l ∧ l ≤ 32 := by omega
  have hk0 : -32 ≤ (k : Int) ∧ (k : Int) ≤ 32 := by omega
  unfold wt
  rw [← hl]
  have b1 := mul_bd hl0 hl0
  have c1 := mul_bd b1 hl0
  have b2 := mul_bd (a := 3 * l) (A := 96) (by omega) hl0
  have c2 := mul_bd b2 hk0
  have b3 := mul_bd (a := 3 * l) (A := 96) (by omega) hk0
  have c3 := mul_bd b3 hk0
  have b4 := mul_bd hk0 hk0
  have c4 := mul_bd b4 hk0
  have b5 := mul_bd (a := 2 * l) (A := 64) (by omega) hk0
  repeat' split
  all_goals omega
theorem mul_pos1 {a b A B : Int} (ha : 1 ≤ a ∧ a ≤ A) (hb : 1 ≤ b ∧ b ≤ B) : 1 ≤ a * b ∧ a * b ≤ A * B := by
  constructor
  · have := Int.mul_le_mul ha.1 hb.1 (by omega) (by omega)
    simpa using this
  · exact Int.mul_le_mul ha.2 hb.2 (by omega) (by omega)
theorem byI_le (m n : Nat) (h1 : 1 ≤ n) (hn : n ≤ 32) : 0 < byI m n ∧ byI m n ≤ 32768 := by
  have h0 : (1 : Int) ≤ (n : Int) ∧ (n : Int) ≤ 32 := by omega
  have h := mul_pos1 h0 h0
  have h3 := mul_pos1 h h0
  simp only [Int.reduceMul] at h h3
  unfold byI
  split
  · exact ⟨by have := h.1; omega, by have := h.2; omega⟩
  · exact ⟨by have := h3.1; omega, h3.2⟩
/-- the weighted sum of the first i points -/
def sumW (W X : Nat → Int) : Nat → Int
  | 0 => 0
  | i + 1 => sumW W X i + W i * X i
theorem sumW_le {W X : Nat → Int} (i : Nat) (hW : ∀ j, j < i → -98304 ≤ W j ∧ W j ≤ 98304) (hX : ∀ j, j < i → -8388607 ≤ X j ∧ X j ≤ 8388607) : -(824633622528 * (i : Int)) ≤ sumW W X i ∧ sumW W X i ≤ 824633622528 * (i : Int) := by
  induction i with
  | zero => exact ⟨Int.le_refl _, Int.le_refl _⟩
  | succ i ih =>
    have h := ih (fun j hj => hW j (by omega)) (fun j hj => hX j (by omega))
    have m := mul_bd (hW i (by omega)) (hX i (by omega))
    unfold sumW
    omega
def partN (X : Nat → Int) (m n k : Nat) : Int := nearI (sumW (wt m k n) X m) (byI m n)
def ptsTo (X Y : Nat → Int) (m n : Nat) : Nat → List Value
  | 0 => []
  | k + 1 => ptsTo X Y m n k ++ [.int .i64 (partN X m n (k + 1)), .int .i64 (partN Y m n (k + 1))]
theorem ptsTo_length (X Y : Nat → Int) (m n k : Nat) : (ptsTo X Y m n k).length = k * 2 := by
  induction k with
  | zero => rfl
  | succ k ih => simp [ptsTo, ih]; omega
theorem ptsTo_get (X Y : Nat → Int) (m n k j : Nat) (h : j < k) : (ptsTo X Y m n k)[j * 2]? = some (.int .i64 (partN X m n (j + 1))) ∧ (ptsTo X Y m n k)[j * 2 + 1]? = some (.int .i64 (partN Y m n (j + 1))) := by
  induction k with
  | zero => omega
  | succ k ih =>
    have hl := ptsTo_length X Y m n k
    by_cases e : j = k
    · subst e
      unfold ptsTo
      constructor
      · rw [List.getElem?_append_right (by omega), hl]; simp
      · rw [List.getElem?_append_right (by omega), hl]; simp
    · have h1 := ih (by omega)
      unfold ptsTo
      rw [List.getElem?_append_left (by omega), List.getElem?_append_left (by omega)]
      exact h1
def CRel (X Y : Nat → Int) (m n : Nat) (w wr : World) (v : Value) (k : Nat) : Prop := wr.ownsRow w.heap.size 42 2 v k (ptsTo X Y m n k) ∧ Below w.heap.size w wr
/-- a slice of n points -/
def RdP (B : Nat) (w : World) (v : Value) (n : Nat) (X Y : Nat → Int) : Prop := ∃ g off cap, v = .slice (some ⟨g, off, none⟩) n cap ∧ B ≤ g ∧ g < w.heap.size ∧ PtAt w g off n X Y
theorem RdP.low {B B' : Nat} {w : World} {v : Value} {n : Nat} {X Y : Nat → Int} (h : RdP B w v n X Y) (hB : B' ≤ B) : RdP B' w v n X Y := by
  obtain ⟨g, off, cap, hv, hg, r⟩ := h
  exact ⟨g, off, cap, hv, Nat.le_trans hB hg, r⟩
theorem RdP.of_owns {w : World} {B : Nat} {v : Value} {n k : Nat} {X Y : Nat → Int} {m : Nat} (h0 : 0 < k) (h : w.ownsRow B 42 2 v k (ptsTo X Y m n k)) : RdP B w v k (fun j => partN X m n (j + 1)) (fun j => partN Y m n (j + 1)) := by
  rcases h.2 with ⟨hv, h0⟩ | ⟨g, cap, cur, hv, hg, hh, _, _, _, htake⟩
  · omega
  · refine ⟨g, 0, cap, hv, hg, ?_, fun j hj => ?_⟩
    · exact (h.lt g (by rw [hv]; rfl)).2
    · have hadd : ∀ i, (⟨g, 0, none⟩ : Addr).add i = ⟨g, 0 + i, none⟩ := by intro i; unfold Addr.add; split <;> simp_all
      have hc := h.cells (g := g) (by rw [hv]; rfl) (j * 2) _ (ptsTo_get X Y m n k j hj).1
      have hd := h.cells (g := g) (by rw [hv]; rfl) (j * 2 + 1) _ (ptsTo_get X Y m n k j hj).2
      rw [hadd] at hc hd
      exact ⟨hc, hd⟩
theorem own_later {w w' : World} {B : Nat} {e : TypeId} {size : Nat} {v : Value} {n : Nat} {xs : List Value} (h : w.ownsRow B e size v n xs) (hb : Below w.heap.size w w') : w'.ownsRow B e size v n xs :=
  h.kept (row := none) ⟨hb.os, hb.tape, hb.output, hb.size, fun i hi _ => hb.block i hi⟩ (by cases v.ownBlock <;> simp)
def CurvePost (X Y : Nat → Int) (m : Nat) (w : World) (e : Ending) (w' : World) : Prop :=
  Below w.heap.size w w' ∧ ((piecesN X Y m = 0 ∧ e = .returned (.tuple #[.slice none 0 0, .int .i64 4])) ∨
    (fitsTo X Y m = true ∧ ∃ v, e = .returned (.tuple #[v, .int .i64 0]) ∧ RdP w.heap.size w' v (piecesN X Y m) (fun j => partN X m (piecesN X Y m) (j + 1)) (fun j => partN Y m (piecesN X Y m) (j + 1))))
theorem Try.info42 : (Try.prog.info? 42).map (fun i => (i.zero, i.size, i.bytes)) = some (some (.agg #[.int .i64 0, .int .i64 0]), 2, 16) := by kernel_rfl
theorem Try.underlying54 : Try.prog.underlying 54 = some (.slice 42) := by kernel_rfl

set_option maxRecDepth 100000 in
set_option maxHeartbeats 4000000 in
theorem curve_any (g off m cap : Nat) (X Y : Nat → Int) (w : World) (hm : m = 3 ∨ m = 4) (h : PtAt w g off m X Y) :
    Calls Try.prog 58 #[.slice (some ⟨g, off, none⟩) m cap] w (CurvePost X Y m w) := by
  obtain ⟨i0, hi, hz0, hz1, hz2⟩ := info_parts Try.info42
  have H := Lib.hid h
  clear h
  have hm0 : 3 ≤ m ∧ m ≤ 4 := by omega
  obtain ⟨hm1, hm2⟩ := hm0
  have HM := Lib.hid hm
  clear hm
  go_enter Try.func58, Try.ntmps58
  go_wp2_with fail
  refine (pieces_any g off m cap X Y w (by omega) H.out).mono ?_
  rintro e w1 ⟨rfl, hb⟩
  cases hfit : fitsTo X Y m
  · have hz : piecesN X Y m = 0 := by unfold piecesN; rw [hfit]; rfl
    have HB := Lib.hid hb
    clear hb
    rw [hz]
    have HZ := Lib.hid hz
    clear hz
    go_wp2_with fail
    refine bodyPost_ret (v := .tuple #[.slice none 0 0, .int .i64 4]) ?_ rfl ⟨HB.out, Or.inl ⟨HZ.out, rfl⟩⟩
    simp [results, Try.results58, go_sem]
  · have hz : piecesN X Y m = pc (dTo X Y (m - 2)) := by unfold piecesN; rw [if_pos hfit]
    have hpl := pc_le (dTo X Y (m - 2))
    rw [← hz] at hpl
    obtain ⟨n, hn⟩ : ∃ n, n = piecesN X Y m := ⟨_, rfl⟩
    rw [← hn] at hpl ⊢
    obtain ⟨hn1, hn2⟩ := hpl
    have H1 := Lib.hid (H.out.later hb)
    have HB := Lib.hid hb
    clear hb H
    have HF := Lib.hid hfit
    clear hfit hz
    have HN := Lib.hid hn
    clear hn
    have hn3 : ¬ ((n : Int) = 0) := by omega
    go_wp2_with (at_make; go_loud (refine wpList_make_own _ rfl _ _ 54 rfl w1.heap.size 42 i0 (.agg #[.int .i64 0, .int .i64 0]) 2 Try.underlying54 hi hz0 hz1 _ _ _ n rfl rfl (by omega) ?b2 ?b3 (Nat.le_refl _) ?_))
    case b2 => rw [hz2]; omega
    case b3 => unfold maxLen; omega
    intro w0 hown0 hgrow0
    have R0 := Lib.hid (show CRel X Y m n w1 w0 (.slice (some ⟨w1.heap.size, 0, none⟩) 0 n) 0 from ⟨hown0, (Below.refl _ _).grown hgrow0 (Nat.le_refl _) (fun k h => by cases h)⟩)
    clear hown0 hgrow0
    go_wp2_with fail
    go_loopw [5, 6] (fun v i wr => ∃ k q : Nat, q = k + 1 ∧ k ≤ n ∧ i = .int .i64 q ∧ CRel X Y m n w1 wr v k) (fun _ i _ => n + 1 - (intOf i).toNat)
    case atStart => exact ⟨0, 1, rfl, by omega, rfl, R0.out⟩
    case round =>
      obtain ⟨k, q, hq, hk, rfl, hrel⟩ := hrel
      have R := Lib.hid hrel
      have HK := Lib.hid (And.intro hq hk)
      have hq0 : 1 ≤ q := by omega
      clear hrel R0 hq hk
      by_cases hlt : q ≤ n
      · go_wp2_with fail
        refine (wei_any m q n wr HM.out hlt hn2).mono ?_
        rintro e w2 ⟨rfl, hb2⟩
        have R2 := Lib.hid hb2
        have WL := Lib.hid (fun j => wt_le m q n j hlt hn2)
        have BL := Lib.hid (byI_le m n hn1 hn2)
        clear hb2
        go_wp2_with fail
        obtain ⟨w3, hw3⟩ : ∃ w3, w3 = w2.alloc (.cells #[.int .i64 (wt m q n 0), .int .i64 (wt m q n 1), .int .i64 (wt m q n 2), .int .i64 (wt m q n 3)] 129) := ⟨_, rfl⟩
        rw [← hw3]
        have WC : ∀ j, j < 4 → w3.cell? ⟨w2.heap.size, j, none⟩ = some (.int .i64 (wt m q n j)) := by
          intro j hj
          subst hw3
          have h4 : j = 0 ∨ j = 1 ∨ j = 2 ∨ j = 3 := by omega
          rcases h4 with rfl | rfl | rfl | rfl <;> (rw [World.cell?_alloc_new]; rfl)
        have B23 : Below w2.heap.size w2 w3 := by subst hw3; exact (Below.refl _ _).alloc (Nat.le_refl _) _
        have S23 : w2.heap.size < w3.heap.size := by subst hw3; simp
        have P3 := Lib.hid ((((H1.out.later R.out.2).later R2.out).later B23))
        have WC := Lib.hid WC
        have B23 := Lib.hid B23
        clear hw3
        obtain ⟨W, hW⟩ : ∃ W, W = wt m q n := ⟨_, rfl⟩
        obtain ⟨by0, hby⟩ : ∃ b, b = byI m n := ⟨_, rfl⟩
        rw [← hby] at BL
        rw [← hby, ← hW]
        rw [← hW] at WC WL
        have HWB := Lib.hid (And.intro hW hby)
        clear hW hby
        obtain ⟨W0, hW0⟩ : ∃ z, z = W 0 := ⟨_, rfl⟩
        obtain ⟨W1, hW1⟩ : ∃ z, z = W 1 := ⟨_, rfl⟩
        obtain ⟨W2, hW2⟩ : ∃ z, z = W 2 := ⟨_, rfl⟩
        obtain ⟨W3, hW3⟩ : ∃ z, z = W 3 := ⟨_, rfl⟩
        rw [← hW0, ← hW1, ← hW2, ← hW3]
        clear hW0 hW1 hW2 hW3
        go_loopw [9, 10, 35] (fun x y i wz => ∃ j : Nat, j ≤ m ∧ i = .int .i64 j ∧ x = .int .i64 (sumW W X j) ∧ y = .int .i64 (sumW W Y j) ∧ Below w3.heap.size w3 wz) (fun _ _ i _ => m - (intOf i).toNat)
        case atStart => exact ⟨0, by omega, rfl, rfl, rfl, Below.refl _ _⟩
        case round =>
          obtain ⟨j, hj, rfl, rfl, rfl, hbz⟩ := hrel
          have SX := sumW_le (W := W) (X := X) j (fun i _ => WL.out i) (fun i hi => (fits_iff (fitsTo_at (k := i) (by omega) HF.out)).1)
          have SY := sumW_le (W := W) (X := Y) j (fun i _ => WL.out i) (fun i hi => (fits_iff (fitsTo_at (k := i) (by omega) HF.out)).2)
          by_cases hjm : j < m
          · obtain ⟨c0, c1⟩ := P3.out.later hbz j hjm
            have cw := cell_later hbz (WC.out j (by omega))
            have hsz := hbz.size
            have hs2 : w2.heap.size < wr.heap.size := by omega
            have hg : g < wr.heap.size := World.block_lt_of_cell? wr _ c0
            have m1 := mul_bd (WL.out j) (fits_iff (fitsTo_at (k := j) (by omega) HF.out)).1
            have m2 := mul_bd (WL.out j) (fits_iff (fitsTo_at (k := j) (by omega) HF.out)).2
            simp only [Int.reduceMul, Int.reduceNeg] at m1 m2
            obtain ⟨wj, hwj⟩ : ∃ z, z = W j := ⟨_, rfl⟩
            obtain ⟨xj, hxj⟩ : ∃ z, z = X j := ⟨_, rfl⟩
            obtain ⟨yj, hyj⟩ : ∃ z, z = Y j := ⟨_, rfl⟩
            obtain ⟨sx, hsx⟩ : ∃ z, z = sumW W X j := ⟨_, rfl⟩
            obtain ⟨sy, hsy⟩ : ∃ z, z = sumW W Y j := ⟨_, rfl⟩
            have HX : Hid (sumW W X (j + 1) = sx + wj * xj) := Lib.hid (by rw [hsx, hwj, hxj]; rfl)
            have HY : Hid (sumW W Y (j + 1) = sy + wj * yj) := Lib.hid (by rw [hsy, hwj, hyj]; rfl)
            rw [← hwj, ← hxj] at m1
            rw [← hwj, ← hyj] at m2
            rw [← hwj] at cw
            rw [← hxj] at c0
            rw [← hyj] at c1
            rw [← hsx] at SX
            rw [← hsy] at SY
            rw [← hsx, ← hsy]
            clear hwj hxj hyj hsx hsy
            obtain ⟨m11, m12⟩ := m1
            obtain ⟨m21, m22⟩ := m2
            obtain ⟨sx1, sx2⟩ : -4000000000000 ≤ sx ∧ sx ≤ 4000000000000 := by omega
            obtain ⟨sy1, sy2⟩ : -4000000000000 ≤ sy ∧ sy ≤ 4000000000000 := by omega
            clear SX SY
            have HBZ := Lib.hid hbz
            clear hbz
            have hj4 : j < 4 := by omega
            go_wp2_with fail
            obtain ⟨w4, hw4⟩ : ∃ w4, w4 = wr.alloc (.cells #[.int .i64 xj, .int .i64 yj] 42) := ⟨_, rfl⟩
            rw [← hw4]
            have d0 : w4.cell? ⟨wr.heap.size, 0, none⟩ = some (.int .i64 xj) := by subst hw4; rw [World.cell?_alloc_new]; rfl
            have d1 : w4.cell? ⟨wr.heap.size, 1, none⟩ = some (.int .i64 yj) := by subst hw4; rw [World.cell?_alloc_new]; rfl
            have B4 : Below wr.heap.size wr w4 := by subst hw4; exact (Below.refl _ _).alloc (Nat.le_refl _) _
            have dw := cell_later B4 cw
            have B4 := Lib.hid B4
            clear cw c0 c1 hw4
            go_quiet (fail)
            go_wp2_with fail
            go_quiet (fail)
            go_wp2_with fail
            refine ⟨⟨j + 1, by omega, by go_num, by rw [HX.out], by rw [HY.out], below_drewN (HBZ.out.trans (B4.out.mono hsz)) _⟩, by simp [intOf]; omega⟩
          · obtain rfl : j = m := by omega
            obtain ⟨by1, by2⟩ := BL.out
            obtain ⟨sx, hsx⟩ : ∃ z, z = sumW W X j := ⟨_, rfl⟩
            obtain ⟨sy, hsy⟩ : ∃ z, z = sumW W Y j := ⟨_, rfl⟩
            rw [← hsx] at SX
            rw [← hsy] at SY
            rw [← hsx, ← hsy]
            obtain ⟨sx1, sx2⟩ : -4000000000000 ≤ sx ∧ sx ≤ 4000000000000 := by omega
            obtain ⟨sy1, sy2⟩ : -4000000000000 ≤ sy ∧ sy ≤ 4000000000000 := by omega
            have HX : Hid (partN X j n q = nearI sx by0) := Lib.hid (by rw [hsx, HWB.out.1, HWB.out.2]; rfl)
            have HY : Hid (partN Y j n q = nearI sy by0) := Lib.hid (by rw [hsy, HWB.out.1, HWB.out.2]; rfl)
            have HBZ := Lib.hid hbz
            clear hsx hsy SX SY hbz
            have BW := Lib.hid ((R2.out.trans (B23.out.mono R2.out.size)).trans (HBZ.out.mono (Nat.le_trans R2.out.size B23.out.size)))
            have HO := own_later R.out.1 BW.out
            have BR := Lib.hid (R.out.2.trans (BW.out.mono R.out.2.size))
            have hk33 : k ≤ 33 := by have := HK.out; omega
            go_wp2_with (first | (go_at_call 71; refine (bnear_any _ _ _ (by omega) (by omega) (by omega) (by omega)).mono ?_; rintro e w' ⟨rfl, rfl⟩) | (at_builtin; go_loud (refine wpList_app (w0 := wr) rfl (.tmp 57) (.tmp 65) 54 rfl w1.heap.size 42 i0 (.agg #[.int .i64 0, .int .i64 0]) 2 16 [.int .i64 (nearI sx by0), .int .i64 (nearI sy by0)] Try.underlying54 hi hz0 hz1 hz2 rfl rfl (by decide) _ _ _ rfl HO rfl (by simp [Value.oneCell']) ?c1 ?c2 BR.out.size ?_)))
            case c1 => unfold maxLen; omega
            case c2 => omega
            intro g' cap' w5 hown5 hb5
            have S := Lib.hid (show CRel X Y j n w1 w5 (.slice (some ⟨g', 0, none⟩) (k + 1) cap') (k + 1) from ⟨by
              have e : q = k + 1 := HK.out.1
              have e1 := HX.out
              have e2 := HY.out
              subst e
              unfold ptsTo
              rw [e1, e2]
              exact hown5, BR.out.trans hb5⟩)
            clear hown5 hb5 HO
            go_wp2_with fail
            have e := HK.out
            refine ⟨⟨k + 1, q + 1, by omega, by omega, by go_num, S.out⟩, by simp [intOf]; omega⟩
      · have ek : k = n := by have := HK.out; omega
        subst ek
        go_wp2_with fail
        refine bodyPost_ret (v := .tuple #[u5, .int .i64 0]) ?_ rfl ?_
        · simp [results, Try.results58, go_sem]
        · refine ⟨HB.out.trans (R.out.2.mono HB.out.size), Or.inr ⟨HF.out, u5, rfl, ?_⟩⟩
          have e := HN.out
          rw [← e]
          exact (RdP.of_owns (by omega) R.out.1).low HB.out.size
end Go.Proofs.Ythglgempbdaikaa
