/- Contracts of the reference's roots: Gcd. -/
import Derived.Test.YthglgempbdaikaaNum14
import Derived.Test.YthglgempbdaikaaNum15
import Derived.Test.YthglgempbdaikaaNum11
import Derived.Test.YthglgempbdaikaaNum9
import Derived.Deep.LoopGhost
namespace Go.Proofs.Ythglgempbdaikaa
open Go.RowKit

/-- how far one is: twos have been taken out t times -/
def GI (a b x y t : Nat) : Prop := 0 < y ∧ x ≤ a ∧ y ≤ b ∧ t ≤ 63 ∧ Nat.gcd a b = 2 ^ t * Nat.gcd x y
theorem odd_coprime {y : Nat} (h : y % 2 = 1) : Nat.Coprime 2 y := by
  unfold Nat.Coprime
  have h1 := Nat.gcd_dvd_left 2 y
  have h2 := Nat.gcd_dvd_right 2 y
  have h3 : Nat.gcd 2 y ≤ 2 := Nat.le_of_dvd (by omega) h1
  have h4 : 0 < Nat.gcd 2 y := Nat.gcd_pos_of_pos_left _ (by omega)
  rcases Nat.lt_or_ge (Nat.gcd 2 y) 2 with h5 | h5
  · omega
  · have h6 : Nat.gcd 2 y = 2 := by omega
    rw [h6] at h2
    omega
theorem gcd_half_left {x y : Nat} (hx : x % 2 = 0) (hy : y % 2 = 1) : Nat.gcd (x / 2) y = Nat.gcd x y := by
  have e : x = 2 * (x / 2) := by omega
  have h := Nat.Coprime.gcd_mul_left_cancel (x / 2) (odd_coprime hy)
  rw [← e] at h
  exact h.symm
theorem gcd_half_right {x y : Nat} (hx : x % 2 = 1) (hy : y % 2 = 0) : Nat.gcd x (y / 2) = Nat.gcd x y := by
  rw [Nat.gcd_comm, gcd_half_left hy hx, Nat.gcd_comm]
theorem gcd_half_both {x y : Nat} (hx : x % 2 = 0) (hy : y % 2 = 0) : Nat.gcd x y = 2 * Nat.gcd (x / 2) (y / 2) := by
  have ex : x = 2 * (x / 2) := by omega
  have ey : y = 2 * (y / 2) := by omega
  have h := Nat.gcd_mul_left 2 (x / 2) (y / 2)
  rw [← ex, ← ey] at h
  exact h
theorem gcd_less {x y : Nat} (h : x ≤ y) : Nat.gcd x (y - x) = Nat.gcd x y := by
  have e : y = y - x + x := by omega
  have := Nat.gcd_add_self_right x (y - x)
  rw [← e] at this
  exact this.symm
theorem GI.both {a b x y t : Nat} (h : GI a b x y t) (hx : x % 2 = 0) (hy : y % 2 = 0) (hp : 0 < x) (ha : Small a) (h2 : x * 2 ^ t ≤ a) : GI a b (x / 2) (y / 2) (t + 1) ∧ 0 < x / 2 ∧ x / 2 * 2 ^ (t + 1) ≤ a := by
  obtain ⟨h0, h1, h3, h4, h5⟩ := h
  have e : x / 2 * 2 ^ (t + 1) = x * 2 ^ t := by
    rw [Nat.pow_succ, Nat.mul_comm (2 ^ t) 2, ← Nat.mul_assoc, Nat.div_mul_cancel (by omega)]
  have ht : t + 1 ≤ 63 := by
    rcases Nat.lt_or_ge t 63 with hl | hl
    · exact hl
    · have h6 : 2 ^ (t + 1) ≤ a := Nat.le_trans (Nat.le_mul_of_pos_left _ (show 0 < x / 2 by omega)) (by rw [e]; exact h2)
      have h7 : 2 ^ 64 ≤ 2 ^ (t + 1) := Nat.pow_le_pow_right (by omega) (by omega)
      unfold Small M64 at ha
      omega
  refine ⟨⟨by omega, by omega, by omega, ht, ?_⟩, by omega, by rw [e]; exact h2⟩
  rw [h5, gcd_half_both hx hy, Nat.pow_succ, Nat.mul_assoc]
theorem GI.left {a b x y t : Nat} (h : GI a b x y t) (hx : x % 2 = 0) (hy : y % 2 = 1) : GI a b (x / 2) y t := by
  obtain ⟨h0, h1, h3, h4, h5⟩ := h
  exact ⟨h0, by omega, h3, h4, by rw [gcd_half_left hx hy]; exact h5⟩
theorem GI.right {a b x y t : Nat} (h : GI a b x y t) (hx : x % 2 = 1) (hy : y % 2 = 0) : GI a b x (y / 2) t := by
  obtain ⟨h0, h1, h3, h4, h5⟩ := h
  exact ⟨by omega, h1, by omega, h4, by rw [gcd_half_right hx hy]; exact h5⟩
theorem GI.lessR {a b x y t : Nat} (h : GI a b x y t) (hxy : x < y) : GI a b x (y - x) t := by
  obtain ⟨h0, h1, h3, h4, h5⟩ := h
  exact ⟨by omega, h1, by omega, h4, by rw [gcd_less (by omega)]; exact h5⟩
theorem GI.lessL {a b x y t : Nat} (h : GI a b x y t) (hxy : y ≤ x) : GI a b (x - y) y t := by
  obtain ⟨h0, h1, h3, h4, h5⟩ := h
  exact ⟨h0, by omega, h3, h4, by rw [Nat.gcd_comm (x - y) y, gcd_less hxy, Nat.gcd_comm y x]; exact h5⟩
/-- the lowest word of a number that isn't nought -/
theorem Ug.first {w : World} {v : Value} {a : Nat} (h : Ug w v a) (h0 : 0 < a) : ∃ g off n cap, v = .slice (some ⟨g, off, none⟩) n cap ∧ 0 < n ∧ w.cell? ⟨g, off, none⟩ = some (.int .u64 (a % 4294967296 : Nat)) := by
  obtain ⟨p, cap, rfl, hc⟩ := rd_cells (by omega) h.1
  have hn : 0 < (dg 4294967296 a).length := by
    rcases Nat.eq_zero_or_pos (dg 4294967296 a).length with h1 | h1
    · rw [dg_len_zero (by omega)] at h1; omega
    · exact h1
  obtain ⟨g, off, rfl, hcc⟩ := hc hn
  refine ⟨g, off, _, cap, rfl, hn, ?_⟩
  have := hcc 0 hn
  simpa using this
theorem GRel_small {a b x y t : Nat} (h : GI a b x y t) (ha : Small a) (hb : Small b) : Small x ∧ Small y := ⟨ha.le h.2.1, hb.le h.2.2.1⟩
def GRel (a b x y t : Nat) (w wr : World) (X Y : Value) : Prop := Ug wr X x ∧ Ug wr Y y ∧ GI a b x y t ∧ Below w.heap.size w wr
set_option maxRecDepth 100000 in
set_option maxHeartbeats 3200000 in
theorem Gcd_any (v u : Value) (a b : Nat) (w : World) (ha : Small a) (hb : Small b) (ha0 : 0 < a) (hb0 : 0 < b) (h : Nt w v a) (h2 : Nt w u b) :
    Calls Try.prog 95 #[v, u] w fun e w' => (∃ v', e = .returned v' ∧ Nt w' v' (Nat.gcd a b)) ∧ Below w.heap.size w w' := by
  obtain ⟨i0, hi, hz0, hz1, hz2⟩ := info_parts Try.info123
  have A := Lib.hid h
  have B := Lib.hid h2
  have la := ha.dg32
  have lb := hb.dg32
  have HA := Lib.hid ha
  have HB := Lib.hid hb
  clear h h2 ha hb
  go_enter Try.func95, Try.ntmps95
  go_wp2_with fail
  refine (half_any _ a w (by omega) A.out).mono ?_
  rintro e w1 ⟨⟨v1, rfl, hd1⟩, hb1⟩
  have D1 := Lib.hid hd1
  have B1 := Lib.hid hb1
  clear hd1 hb1
  go_wp2_with fail
  refine (words_any _ (dg 65536 a) w1 (dg_lt (by omega) _) (dg_short HA.out) D1.out.1 D1.out.2).mono ?_
  rintro e w2 ⟨⟨v2, rfl, hd2⟩, hb2⟩
  rw [val_dg (by omega)] at hd2
  have D2 := Lib.hid hd2
  have B2 := Lib.hid (B1.out.trans (hb2.mono B1.out.size))
  clear hd2 hb2 D1 B1
  go_wp2_with fail
  refine (copied_any _ a w2 HA.out D2.out).mono ?_
  rintro e w3 ⟨⟨v3, rfl, hd3⟩, hb3⟩
  have X3 := Lib.hid hd3
  have B3 := Lib.hid (B2.out.trans (hb3.mono B2.out.size))
  clear hd3 hb3 D2 B2
  go_wp2_with fail
  refine (half_any _ b w3 (by omega) (B.out.later B3.out)).mono ?_
  rintro e w4 ⟨⟨v4, rfl, hd4⟩, hb4⟩
  have D4 := Lib.hid hd4
  have X4 := Lib.hid (X3.out.later hb4)
  have B4 := Lib.hid (B3.out.trans (hb4.mono B3.out.size))
  clear hd4 hb4 X3 B3
  go_wp2_with fail
  refine (words_any _ (dg 65536 b) w4 (dg_lt (by omega) _) (dg_short HB.out) D4.out.1 D4.out.2).mono ?_
  rintro e w5 ⟨⟨v5, rfl, hd5⟩, hb5⟩
  rw [val_dg (by omega)] at hd5
  have D5 := Lib.hid hd5
  have X5 := Lib.hid (X4.out.later hb5)
  have B5 := Lib.hid (B4.out.trans (hb5.mono B4.out.size))
  clear hd5 hb5 D4 X4 B4
  go_wp2_with fail
  refine (copied_any _ b w5 HB.out D5.out).mono ?_
  rintro e w6 ⟨⟨v6, rfl, hd6⟩, hb6⟩
  have Y6 := Lib.hid hd6
  have X6 := Lib.hid (X5.out.later hb6)
  have B6 := Lib.hid (B5.out.trans (hb6.mono B5.out.size))
  clear hd6 hb6 D5 X5 B5 A B la lb
  go_wp2_with fail
  refine (zero_any _ a w6 HA.out X6.out).mono ?_
  rintro e w' ⟨rfl, rfl⟩
  rw [decide_eq_false (show ¬ a = 0 by omega)]
  go_wp2_with fail
  refine (zero_any _ b w6 HB.out Y6.out).mono ?_
  rintro e w' ⟨rfl, rfl⟩
  rw [decide_eq_false (show ¬ b = 0 by omega)]
  go_wp2_with fail
  have HP := Lib.hid (And.intro ha0 hb0)
  clear ha0 hb0
  go_loopg [5, 6, 7] a (fun g X Y T wr => ∃ x y t : Nat, g = x ∧ T = .int .i64 t ∧ 0 < x ∧ x * 2 ^ t ≤ a ∧ GRel a b x y t w wr X Y)
  case atStart => exact ⟨a, b, 0, rfl, rfl, HP.out.1, by simp, X6.out, Y6.out, ⟨HP.out.2, Nat.le_refl _, Nat.le_refl _, by omega, by simp⟩, B6.out⟩
  case round =>
    obtain ⟨x, y, t, hg, rfl, hx0, hx2, hr⟩ := hrel
    have R := Lib.hid hr
    have HG := Lib.hid hg
    have HX := Lib.hid (And.intro hx0 hx2)
    have ht63 := hr.2.2.1.2.2.2.1
    clear hr hg X6 Y6 B6 hx2
    obtain ⟨gx, ox, nx, cpx, rfl, hnx, cx⟩ := R.out.1.first HX.out.1
    obtain ⟨gy, oy, ny, cpy, rfl, hny, cy⟩ := R.out.2.1.first R.out.2.2.1.1
    have ex : ((x % 4294967296 : Nat) : Int) % 2 = ((x % 2 : Nat) : Int) := by omega
    have ey : ((y % 4294967296 : Nat) : Int) % 2 = ((y % 2 : Nat) : Int) := by omega
    obtain ⟨dx, hdx⟩ : ∃ d, d = x % 4294967296 := ⟨_, rfl⟩
    obtain ⟨dy, hdy⟩ : ∃ d, d = y % 4294967296 := ⟨_, rfl⟩
    rw [← hdx] at cx ex
    rw [← hdy] at cy ey
    clear hdx hdy
    by_cases hbe : x % 2 = 0 ∧ y % 2 = 0
    · obtain ⟨hx1, hy1⟩ := hbe
      have ex1 : (dx : Int) % 2 = 0 := by omega
      have ey1 : (dy : Int) % 2 = 0 := by omega
      have HE := Lib.hid (And.intro hx1 hy1)
      clear ex ey hx1 hy1
      go_wp2_with fail
      refine (halved_any _ x wr (GRel_small R.out.2.2.1 HA.out HB.out).1 R.out.1).mono ?_
      rintro e w7 ⟨⟨v7, rfl, h7⟩, hb7⟩
      have X7 := Lib.hid h7
      have Y7 := Lib.hid (R.out.2.1.later hb7)
      have B7 := Lib.hid (R.out.2.2.2.trans (hb7.mono R.out.2.2.2.size))
      clear h7 hb7 cx cy
      go_wp2_with fail
      refine (halved_any _ y w7 (GRel_small R.out.2.2.1 HA.out HB.out).2 Y7.out).mono ?_
      rintro e w8 ⟨⟨v8, rfl, h8⟩, hb8⟩
      have X8 := Lib.hid (X7.out.later hb8)
      have Y8 := Lib.hid h8
      have B8 := Lib.hid (B7.out.trans (hb8.mono B7.out.size))
      have GB := Lib.hid (R.out.2.2.1.both HE.out.1 HE.out.2 HX.out.1 HA.out HX.out.2)
      clear h8 hb8
      go_wp2_with fail
      go_roundg (x / 2)
      case measure => have := HG.out; have := HX.out.1; omega
      case rel => exact ⟨x / 2, y / 2, t + 1, rfl, by go_num, GB.out.2.1, GB.out.2.2, X8.out, Y8.out, GB.out.1, B8.out⟩
    · have hodd : Hid (x % 2 = 1 ∨ y % 2 = 1) := Lib.hid (by omega)
      rcases (show ((dx : Int) % 2 = 1) ∨ ((dx : Int) % 2 = 0 ∧ (dy : Int) % 2 = 1) by omega) with e1 | ⟨e1, e2⟩
      all_goals
        clear ex ey hbe
        go_wp2_with fail
        go_loopg [5, 6] (x + y) (fun g X Y wz => ∃ x' y' : Nat, g = x' + y' ∧ (x' % 2 = 1 ∨ y' % 2 = 1) ∧ GRel a b x' y' t w wz X Y)
        case atStart => exact ⟨x, y, rfl, hodd.out, R.out⟩
        case round =>
          clear e1 cx cy
          try clear e2
          obtain ⟨x', y', hg', ho', hr'⟩ := hrel
          have R2 := Lib.hid hr'
          have HG2 := Lib.hid hg'
          have HO2 := Lib.hid ho'
          have S2 := Lib.hid (GRel_small hr'.2.2.1 HA.out HB.out)
          clear hr' hg' ho' R HG HX hodd
          obtain ⟨wz, rfl⟩ : ∃ wz : World, wz = wr := ⟨_, rfl⟩
          go_wp2_with fail
          refine (zero_any _ x' wz S2.out.1 R2.out.1).mono ?_
          rintro e w' ⟨rfl, rfl⟩
          by_cases hx0' : x' = 0
          · rw [decide_eq_true hx0']
            have hgc : Hid (Nat.gcd a b = y' * 2 ^ t) := Lib.hid (by rw [R2.out.2.2.1.2.2.2.2, hx0', Nat.gcd_zero_left, Nat.mul_comm])
            obtain ⟨p, cap, rfl, hc⟩ := rd_cells (by omega) R2.out.2.1.1
            have ly := S2.out.2.dg32
            have hsn := Lib.hid (dg_take_snoc (B := 4294967296) (by omega) y')
            have htl : Hid ((dg 4294967296 y').take (dg 4294967296 y').length = dg 4294967296 y') := Lib.hid List.take_length
            obtain ⟨L, hL⟩ : ∃ L, L = dg 4294967296 y' := ⟨_, rfl⟩
            rw [← hL] at hsn hc ly htl ⊢
            have HL := Lib.hid hL
            have C := Lib.hid hc
            clear hL hc hx0'
            go_wp2_with fail
            go_loopw [8, 9] (fun d i wq => ∃ k : Nat, k ≤ L.length ∧ i = .int .i64 k ∧ wq.ownsRow wz.heap.size 123 1 d k (ints .u32 (L.take k)) ∧ Below wz.heap.size wz wq) (fun _ i _ => L.length - (intOf i).toNat)
            case atStart => exact ⟨0, by omega, rfl, World.ownsRow_nil _ _ _ _, Below.refl _ _⟩
            case round =>
              obtain ⟨k, hk, rfl, ho, hb⟩ := hrel
              have O := Lib.hid ho
              have B := Lib.hid hb
              clear ho hb
              by_cases hlt : k < L.length
              · obtain ⟨g, off, rfl, hcc⟩ := C.out (by omega)
                have c0 := cell_later B.out (hcc k hlt)
                have S := Lib.hid (hsn.out k hlt)
                obtain ⟨d, hd⟩ : ∃ d, d = y' / 4294967296 ^ k % 4294967296 := ⟨_, rfl⟩
                have hd1 : d < 4294967296 := by omega
                rw [← hd] at c0 S
                clear hcc hd
                have HO := O.out
                go_wp2_with (at_builtin; go_loud (refine wpList_app (w0 := wr) rfl (.tmp 77) (.tmp 83) 101 rfl wz.heap.size 123 i0 (.int .u32 0) 1 4 [.int .u32 (d : Int)] Try.underlying101 hi hz0 hz1 hz2 rfl rfl (by decide) _ _ _ rfl HO rfl (by simp [Value.oneCell']) (by unfold maxLen; omega) (by omega) B.out.size ?_))
                intro g' cap' w5 hown5 hb5
                have O2 := Lib.hid (show w5.ownsRow wz.heap.size 123 1 (.slice (some ⟨g', 0, none⟩) (k + 1) cap') (k + 1) (ints .u32 (L.take (k + 1))) from by
                  rw [S.out]; simpa [ints] using hown5)
                have B2 := Lib.hid (B.out.trans hb5)
                clear hown5 hb5 HO
                go_wp2_with fail
                refine ⟨⟨k + 1, by omega, by go_num, O2.out, B2.out⟩, by (first | (simp [intOf]; done) | (simp [intOf]; omega) | (simp only [intOf]; omega))⟩
              · obtain rfl : k = L.length := by omega
                have ho := O.out
                rw [htl.out] at ho
                have N1 : Hid (Nt wr u8 y') := Lib.hid ⟨by rw [← HL.out]; exact Rd.of_owns ho (by omega), own_cap ho⟩
                clear ho
                go_wp2_with fail
                refine (Power_any t wr ht63).mono ?_
                rintro e w9 ⟨⟨v9, rfl, h9⟩, hb9⟩
                have N9 := Lib.hid (N1.out.later hb9)
                have P9 := Lib.hid h9
                have B9 := Lib.hid ((R2.out.2.2.2.trans (B.out.mono R2.out.2.2.2.size)).trans (hb9.mono (Nat.le_trans R2.out.2.2.2.size B.out.size)))
                clear h9 hb9
                go_wp2_with fail
                refine (Mul_any _ _ y' (2 ^ t) w9 S2.out.2 (pow2_small ht63) N9.out P9.out).mono ?_
                rintro e w10 ⟨⟨v10, rfl, h10⟩, hb10⟩
                rw [← hgc.out] at h10
                have N10 := Lib.hid h10
                have B10 := Lib.hid (B9.out.trans (hb10.mono B9.out.size))
                clear h10 hb10
                go_wp2_with fail
                go_ret
                exact ⟨⟨_, rfl, N10.out⟩, B10.out⟩
          · rw [decide_eq_false hx0']
            go_wp2_with fail
            go_loopg [5] x' (fun g X wq => ∃ z : Nat, g = z ∧ 0 < z ∧ z ≤ x' ∧ (z % 2 = 1 ∨ y' % 2 = 1) ∧ GRel a b z y' t w wq X u6)
            case atStart => exact ⟨x', rfl, by omega, Nat.le_refl _, HO2.out, R2.out⟩
            case round =>
              obtain ⟨z, hgz, hz0', hz1', hoz, hrz⟩ := hrel
              have R3 := Lib.hid hrz
              have HG3 := Lib.hid hgz
              have HZ3 := Lib.hid (And.intro hz0' hz1')
              have S3 := Lib.hid (GRel_small hrz.2.2.1 HA.out HB.out)
              clear hrz hgz hz1'
              obtain ⟨gx, ox, nx, cpx, rfl, hnx, cx⟩ := R3.out.1.first HZ3.out.1
              have ex : ((z % 4294967296 : Nat) : Int) % 2 = ((z % 2 : Nat) : Int) := by omega
              obtain ⟨dx, hdx⟩ : ∃ d, d = z % 4294967296 := ⟨_, rfl⟩
              rw [← hdx] at cx ex
              by_cases hz2 : z % 2 = 0
              · have ex1 : (dx : Int) % 2 = 0 := by omega
                have HZ := Lib.hid (show z % 2 = 0 ∧ y' % 2 = 1 from ⟨hz2, by omega⟩)
                clear ex hdx hz2 hoz
                go_wp2_with fail
                refine (halved_any _ z wr S3.out.1 R3.out.1).mono ?_
                rintro e w7 ⟨⟨v7, rfl, h7⟩, hb7⟩
                have X7 := Lib.hid h7
                have Y7 := Lib.hid (R3.out.2.1.later hb7)
                have B7 := Lib.hid (R3.out.2.2.2.trans (hb7.mono R3.out.2.2.2.size))
                have GL := Lib.hid (R3.out.2.2.1.left HZ.out.1 HZ.out.2)
                clear h7 hb7 cx
                go_wp2_with fail
                go_roundg (z / 2)
                case measure => have := HG3.out; have := HZ3.out.1; omega
                case rel => exact ⟨z / 2, rfl, by have := HZ.out.1; have := HZ3.out.1; omega, by have := HZ3.out.2; omega, .inr HZ.out.2, X7.out, Y7.out, GL.out, B7.out⟩
              · have ex1 : (dx : Int) % 2 = 1 := by omega
                have HZ : Hid (z % 2 = 1) := Lib.hid (by omega)
                clear ex hdx hz2 hoz
                go_wp2_with fail
                go_loopg [6] y' (fun g Y wq => ∃ z2 : Nat, g = z2 ∧ z2 ≤ y' ∧ GRel a b z z2 t w wq (.slice (some ⟨gx, ox, none⟩) nx cpx) Y)
                case atStart => exact ⟨y', rfl, Nat.le_refl _, R3.out⟩
                case round =>
                  clear cx ex1
                  obtain ⟨z2, hgz2, hz21, hrz2⟩ := hrel
                  have R4 := Lib.hid hrz2
                  have HG4 := Lib.hid (And.intro hgz2 hz21)
                  have S4 := Lib.hid (GRel_small hrz2.2.2.1 HA.out HB.out)
                  clear hrz2 hgz2 hz21
                  obtain ⟨gy, oy, ny, cpy, rfl, hny, cy⟩ := R4.out.2.1.first R4.out.2.2.1.1
                  have ey : ((z2 % 4294967296 : Nat) : Int) % 2 = ((z2 % 2 : Nat) : Int) := by omega
                  obtain ⟨dy, hdy⟩ : ∃ d, d = z2 % 4294967296 := ⟨_, rfl⟩
                  rw [← hdy] at cy ey
                  by_cases hz2 : z2 % 2 = 0
                  · have ey1 : (dy : Int) % 2 = 0 := by omega
                    have HZ2 := Lib.hid hz2
                    clear ey hdy hz2
                    go_wp2_with fail
                    refine (halved_any _ z2 wr S4.out.2 R4.out.2.1).mono ?_
                    rintro e w7 ⟨⟨v7, rfl, h7⟩, hb7⟩
                    have X7 := Lib.hid (R4.out.1.later hb7)
                    have Y7 := Lib.hid h7
                    have B7 := Lib.hid (R4.out.2.2.2.trans (hb7.mono R4.out.2.2.2.size))
                    have GL := Lib.hid (R4.out.2.2.1.right HZ.out HZ2.out)
                    clear h7 hb7 cy
                    go_wp2_with fail
                    go_roundg (z2 / 2)
                    case measure => have := HG4.out.1; have := R4.out.2.2.1.1; omega
                    case rel => exact ⟨z2 / 2, rfl, by have := HG4.out.2; omega, X7.out, Y7.out, GL.out, B7.out⟩
                  · have ey1 : (dy : Int) % 2 = 1 := by omega
                    have HZ2 : Hid (z2 % 2 = 1) := Lib.hid (by omega)
                    clear ey hdy hz2
                    go_wp2_with fail
                    refine (below_any _ _ z z2 wr S4.out.1 S4.out.2 R4.out.1 R4.out.2.1).mono ?_
                    rintro e w7 ⟨rfl, hb7⟩
                    have X7 := Lib.hid (R4.out.1.later hb7)
                    have Y7 := Lib.hid (R4.out.2.1.later hb7)
                    have B7 := Lib.hid (R4.out.2.2.2.trans (hb7.mono R4.out.2.2.2.size))
                    clear hb7 cy ey1
                    by_cases hlt : z < z2
                    · rw [decide_eq_true hlt]
                      have HLT := Lib.hid hlt
                      clear hlt
                      go_wp2_with fail
                      refine (less_any _ _ z2 z w7 S4.out.2 (Nat.le_of_lt HLT.out) Y7.out X7.out).mono ?_
                      rintro e w8 ⟨⟨v8, rfl, h8⟩, hb8⟩
                      have X8 := Lib.hid (X7.out.later hb8)
                      have Y8 := Lib.hid h8
                      have B8 := Lib.hid (B7.out.trans (hb8.mono B7.out.size))
                      have GL := Lib.hid (R4.out.2.2.1.lessR HLT.out)
                      clear h8 hb8
                      go_wp2_with fail
                      go_roundg (z + (z2 - z))
                      case measure => have := HG4.out.2; have := HG2.out; have := HLT.out; have := HZ3.out; omega
                      case rel => exact ⟨z, z2 - z, rfl, .inl HZ.out, X8.out, Y8.out, GL.out, B8.out⟩
                    · rw [decide_eq_false hlt]
                      have HLT : Hid (z2 ≤ z) := Lib.hid (by omega)
                      clear hlt
                      go_wp2_with fail
                      refine (less_any _ _ z z2 w7 S4.out.1 HLT.out X7.out Y7.out).mono ?_
                      rintro e w8 ⟨⟨v8, rfl, h8⟩, hb8⟩
                      have X8 := Lib.hid h8
                      have Y8 := Lib.hid (Y7.out.later hb8)
                      have B8 := Lib.hid (B7.out.trans (hb8.mono B7.out.size))
                      have GL := Lib.hid (R4.out.2.2.1.lessL HLT.out)
                      clear h8 hb8
                      go_wp2_with fail
                      go_roundg (z - z2 + z2)
                      case measure => have := R4.out.2.2.1.1; have := HG2.out; have := HLT.out; have := HZ3.out; have := R2.out.2.2.1.1; omega
                      case rel => exact ⟨z - z2, z2, rfl, .inr HZ2.out, X8.out, Y8.out, GL.out, B8.out⟩
end Go.Proofs.Ythglgempbdaikaa
