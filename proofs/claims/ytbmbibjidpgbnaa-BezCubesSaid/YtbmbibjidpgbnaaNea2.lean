/- Contracts of frisketref10: one. -/
import Derived.Test.YtbmbibjidpgbnaaNea1
import Derived.Test.YtbmbibjidpgbnaaBez1
namespace Go.Proofs.Ytbmbibjidpgbnaa
open Go.RowKit

theorem floor_mk (z : Int) {n : Nat} (hn : 0 < n) : (mkRat z n).floor = z / (n : Int) := by
  rw [Rat.floor_def, Rat.num_mkRat, Rat.den_mkRat, if_neg (by omega), if_neg (by omega)]
  have hg : 0 < n.gcd z.natAbs := Nat.gcd_pos_of_pos_left _ hn
  obtain ⟨g, hge⟩ : ∃ g, g = n.gcd z.natAbs := ⟨_, rfl⟩
  have d1 : g ∣ n := by rw [hge]; exact Nat.gcd_dvd_left _ _
  have d2 : g ∣ z.natAbs := by rw [hge]; exact Nat.gcd_dvd_right _ _
  rw [← hge] at hg ⊢
  obtain ⟨m, rfl⟩ := d1
  obtain ⟨y, hy⟩ := d2
  have hz : ∃ t : Int, z = (g : Int) * t := by
    rcases Int.le_total 0 z with h | h
    · exact ⟨(y : Int), by rw [← Int.natCast_mul, ← hy]; omega⟩
    · exact ⟨-(y : Int), by rw [Int.mul_neg, ← Int.natCast_mul, ← hy]; omega⟩
  obtain ⟨t, rfl⟩ := hz
  rw [Nat.mul_div_cancel_left _ hg, Int.mul_ediv_cancel_left _ (by omega), Int.natCast_mul, Int.mul_ediv_mul_of_pos _ _ (by omega)]
theorem near_mk (n : Int) {b : Nat} (hb : 0 < b) : nearQ (mkRat n b) = nearI n b := by
  unfold nearQ nearI
  rw [Rat.mkRat_add_mkRat _ _ (by omega) (by omega), floor_mk _ (by omega)]
  congr 1
  · simp; omega
  · simp; omega
theorem one_eq (a x c y : Int) : nearQ (mkRat (a * x + c * y) 256) = (a * x + c * y + 128) / 256 := by
  rw [near_mk _ (by omega)]
  unfold nearI
  simp
  omega
theorem int_ok (a x : Int) (ha : -32768 ≤ a ∧ a ≤ 32768) (hx : -8388607 ≤ x ∧ x ≤ 8388607) : MulOk (a : Rat) (x : Rat) := by
  have := mul_bd ha hx
  simp only [Int.reduceMul, Int.reduceNeg] at this
  unfold MulOk Q62
  simp only [Rat.num_intCast, Rat.den_intCast, ← Int.natAbs_mul]
  omega
theorem add_ok (p q : Int) (hp : -1000000000000 ≤ p ∧ p ≤ 1000000000000) (hq : -1000000000000 ≤ q ∧ q ≤ 1000000000000) : AddOk (p : Rat) (q : Rat) := by
  unfold AddOk Q62
  simp only [Rat.num_intCast, Rat.den_intCast]
  omega
theorem div256_ok (s : Int) (h : -1000000000000 ≤ s ∧ s ≤ 1000000000000) : DivOk (s : Rat) ((256 : Int) : Rat) := by
  unfold DivOk Q62
  simp only [Rat.num_intCast, Rat.den_intCast]
  omega
theorem div256 (s : Int) : (s : Rat) / ((256 : Int) : Rat) = mkRat s 256 := (Rat.mkRat_eq_div s 256).symm
theorem near256_ok (s : Int) (h : -1000000000000 ≤ s ∧ s ≤ 1000000000000) : NearOk (mkRat s 256) := by
  have := mk_le s (show 0 < 256 by omega)
  unfold NearOk
  omega
theorem cell_drew {W : World} {a : Addr} {v : Value} (h : W.cell? a = some v) : W.drew.cell? a = some v := h
/-- a fraction in a block of its own -/
abbrev EndF (wc W : World) (g : Nat) (b : Bool) (p : Option Addr) (n c : Nat) (p' : Option Addr) (n' c' : Nat) (q : Rat) : Prop := BxAt W g [.bool b, .slice p n c, .slice p' n' c'] ∧ Frp W b (.slice p n c) (.slice p' n' c') q ∧ Below wc.heap.size wc W
theorem endA {wc v : World} {b : Bool} {p p' : Option Addr} {n n' c c' : Nat} {q : Rat} (k : Below wc.heap.size wc v) (h : Frp v b (.slice p n c) (.slice p' n' c') q) : EndF wc (v.alloc (.cells #[.bool b, .slice p n c, .slice p' n' c'] 106)) v.heap.size b p n c p' n' c' q :=
  ⟨BxAt.new v _ _, h.later (below_alloc _ _), bthen k (below_alloc _ _)⟩
theorem endB {wc v : World} {g : Nat} {b : Bool} {p p' : Option Addr} {n n' c c' : Nat} {q : Rat} (X : BxAt v g [.bool false, .slice none 0 0, .slice none 0 0]) (k : Below wc.heap.size wc v) (hg : wc.heap.size ≤ g) (h : Frp v b (.slice p n c) (.slice p' n' c') q) : EndF wc (set3 v g (.bool b) (.slice p n c) (.slice p' n' c')) g b p n c p' n' c' q :=
  ⟨X.put3 _ _ _, h.store3 _ _ _ X, below_store3 k hg _ _ _⟩
set_option maxRecDepth 100000 in
set_option maxHeartbeats 6400000 in
theorem one_any (a x c y e : Int) (w : World) (ha : -32768 ≤ a ∧ a ≤ 32768) (hx : -8388607 ≤ x ∧ x ≤ 8388607) (hc : -32768 ≤ c ∧ c ≤ 32768) (hy : -8388607 ≤ y ∧ y ≤ 8388607) (he : -8388607 ≤ e ∧ e ≤ 8388607) :
    Calls Try.prog 48 #[.int .i64 a, .int .i64 x, .int .i64 c, .int .i64 y, .int .i64 e] w (RetPost (.int .i64 (goes a x c y e)) w) := by
  have m1 := mul_bd ha hx
  have m2 := mul_bd hc hy
  simp only [Int.reduceMul, Int.reduceNeg] at m1 m2
  have I1 : Hid ((-I63 ≤ a ∧ a < I63) ∧ (-I63 ≤ x ∧ x < I63) ∧ (-I63 ≤ c ∧ c < I63) ∧ (-I63 ≤ y ∧ y < I63) ∧ (-I63 ≤ 256 ∧ (256 : Int) < I63)) := Lib.hid (by unfold I63; omega)
  have O1 := Lib.hid (int_ok a x ha hx)
  have O2 := Lib.hid (int_ok c y hc hy)
  have O3 := Lib.hid (add_ok (a * x) (c * y) (by omega) (by omega))
  have O4 := Lib.hid (div256_ok (a * x + c * y) (by omega))
  have O5 := Lib.hid (near256_ok (a * x + c * y) (by omega))
  have E1 := Lib.hid (Rat.intCast_mul a x).symm
  have E2 := Lib.hid (Rat.intCast_mul c y).symm
  have E3 := Lib.hid (Rat.intCast_add (a * x) (c * y)).symm
  have E4 := Lib.hid (div256 (a * x + c * y))
  have E5 := Lib.hid (one_eq a x c y)
  obtain ⟨r, hr⟩ : ∃ r, r = (a * x + c * y + 128) / 256 := ⟨_, rfl⟩
  have hg : goes a x c y e = r + e := by rw [hr]; rfl
  have hr1 : -10000000000 ≤ r ∧ r ≤ 10000000000 := by omega
  rw [← hr] at E5
  rw [hg]
  obtain ⟨hr2, hr3⟩ := hr1
  obtain ⟨he1, he2⟩ := he
  clear hr hg m1 m2 ha hx hc hy
  go_enter Try.func48, Try.ntmps48
  go_wp2_with fail
  refine (FInt_any a w I1.out.1.1 I1.out.1.2).mono ?_
  rintro e1 w1 ⟨⟨b1, s1, d1, rfl, h1⟩, hb1⟩
  have Q1 := Lib.hid h1
  have B1 := Lib.hid hb1
  clear h1 hb1
  go_wp2_with fail
  refine (FInt_any x w1 I1.out.2.1.1 I1.out.2.1.2).mono ?_
  rintro e2 w2 ⟨⟨b2, s2, d2, rfl, h2⟩, hb2⟩
  have Q2 := Lib.hid h2
  have Q1 := Lib.hid (Q1.out.later hb2)
  have B2 := Lib.hid (bthen B1.out hb2)
  clear h2 hb2 B1
  go_wp2_with fail
  refine (FMul_any b1 s1 d1 b2 s2 d2 _ _ w2 O1.out Q1.out Q2.out).mono ?_
  rintro e3 w3 ⟨⟨b3, s3, d3, rfl, h3⟩, hb3⟩
  rw [E1.out] at h3
  have Q3 := Lib.hid h3
  have B3 := Lib.hid (bthen B2.out hb3)
  clear h3 hb3 B2 Q1 Q2
  go_wp2_with fail
  refine (FInt_any c w3 I1.out.2.2.1.1 I1.out.2.2.1.2).mono ?_
  rintro e4 w4 ⟨⟨b4, s4, d4, rfl, h4⟩, hb4⟩
  have Q4 := Lib.hid h4
  have Q3 := Lib.hid (Q3.out.later hb4)
  have B4 := Lib.hid (bthen B3.out hb4)
  clear h4 hb4 B3
  go_wp2_with fail
  refine (FInt_any y w4 I1.out.2.2.2.1.1 I1.out.2.2.2.1.2).mono ?_
  rintro e5 w5 ⟨⟨b5, s5, d5, rfl, h5⟩, hb5⟩
  have Q5 := Lib.hid h5
  have Q4 := Lib.hid (Q4.out.later hb5)
  have Q3 := Lib.hid (Q3.out.later hb5)
  have B5 := Lib.hid (bthen B4.out hb5)
  clear h5 hb5 B4
  go_wp2_with fail
  refine (FMul_any b4 s4 d4 b5 s5 d5 _ _ w5 O2.out Q4.out Q5.out).mono ?_
  rintro e6 w6 ⟨⟨b6, s6, d6, rfl, h6⟩, hb6⟩
  rw [E2.out] at h6
  have Q6 := Lib.hid h6
  have Q3 := Lib.hid (Q3.out.later hb6)
  have B6 := Lib.hid (bthen B5.out hb6)
  clear h6 hb6 B5 Q4 Q5
  go_wp2_with fail
  refine (FAdd_any b3 s3 d3 b6 s6 d6 _ _ w6 O3.out Q3.out Q6.out).mono ?_
  rintro e7 w7 ⟨⟨b7, s7, d7, rfl, h7⟩, hb7⟩
  rw [E3.out] at h7
  obtain ⟨⟨p1, n1, c1, rfl⟩, p2, n2, c2, rfl⟩ := h7.forms
  have Q7 := Lib.hid h7
  have B7 := Lib.hid (bthen B6.out hb7)
  clear h7 hb7 B6 Q3 Q6
  go_wp2_with fail
  obtain ⟨w0, hw0⟩ : ∃ w0, w0 = w7.alloc (.cells #[.bool b7, .slice p1 n1 c1, .slice p2 n2 c2] 106) := ⟨_, rfl⟩
  obtain ⟨G, hG⟩ : ∃ G, G = w7.heap.size := ⟨_, rfl⟩
  have X0 : Hid (BxAt w0 G [.bool b7, .slice p1 n1 c1, .slice p2 n2 c2]) := Lib.hid (by rw [hw0, hG]; exact BxAt.new w7 _ _)
  have Q0 : Hid (Frp w0 b7 (.slice p1 n1 c1) (.slice p2 n2 c2) ((a * x + c * y : Int) : Rat)) := Lib.hid (by rw [hw0]; exact Q7.out.later (below_alloc _ _))
  have B0 : Hid (Below w.heap.size w w0) := Lib.hid (by rw [hw0]; exact bthen B7.out (below_alloc _ _))
  rw [← hw0, ← hG]
  clear hw0 hG Q7 B7
  have a0 := X0.out.2.2 0 _ rfl
  have a1 := X0.out.2.2 1 _ rfl
  have a2 := X0.out.2.2 2 _ rfl
  have zG : G < w0.heap.size := X0.out.1
  have k : Below w0.heap.size w0 w0 := Below.refl _ _
  go_cut [12] (fun s12 wx => ∃ g b9 p9 n9 c9 p8 n8 c8, s12 = .pointer (some ⟨g, 0, none⟩) ∧ EndF w0 wx g b9 p9 n9 c9 p8 n8 c8 (mkRat (a * x + c * y) 256))
  case first =>
    go_region_held3 (fun w' => w'.cell? ⟨G, 0, none⟩ = some (.bool b7) ∧ w'.cell? ⟨G, 1, none⟩ = some (.slice p1 n1 c1) ∧ w'.cell? ⟨G, 2, none⟩ = some (.slice p2 n2 c2))
      (first | with_reducible exact ⟨cell_later k a0, cell_later k a1, cell_later k a2⟩ | with_reducible exact ⟨cell_alloc _ (cell_later k a0), cell_alloc _ (cell_later k a1), cell_alloc _ (cell_later k a2)⟩ | with_reducible exact ⟨cell_drew a0, cell_drew a1, cell_drew a2⟩ | with_reducible exact ⟨cell_drew (cell_alloc _ a0), cell_drew (cell_alloc _ a1), cell_drew (cell_alloc _ a2)⟩ | with_reducible exact ⟨cell3_far (cell_later k a0) (by omega), cell3_far (cell_later k a1) (by omega), cell3_far (cell_later k a2) (by omega)⟩)
      (first
        | (go_at_call 61; (with_reducible refine (FInt_any 256 w0.drew I1.out.2.2.2.2.1 I1.out.2.2.2.2.2).mono ?_); rintro e8 v1 ⟨⟨bh, sh, dh, rfl, P1⟩, hb⟩; have k : Below w0.heap.size w0 v1 := bel_drew hb; have z1 := k.size)
        | (go_at_call 61; (with_reducible refine (FInt_any 256 _ I1.out.2.2.2.2.1 I1.out.2.2.2.2.2).mono ?_); rintro e8 v1 ⟨⟨bh, sh, dh, rfl, P1⟩, hb⟩; have k : Below w0.heap.size w0 v1 := bthen (below_alloc _ _) (bel_drew hb); have z1 := k.size; have N := (BxAt.new w0 [.bool false, .slice none 0 0, .slice none 0 0] 106).later (bel_drew hb))
        | (go_at_call 60; (with_reducible refine (FDiv_any b7 _ _ bh sh dh _ _ _ O4.out (Q0.out.later k) P1).mono ?_); rintro e9 v2 ⟨⟨bs, ss, ds, rfl, P2⟩, hb⟩; obtain ⟨⟨p9, n9, c9, rfl⟩, p8, n8, c8, rfl⟩ := P2.forms; have k := bthen k hb; have z2 := k.size; (first | (have M := N.later hb; have m0 := M.2.2 0 _ rfl; have m1 := M.2.2 1 _ rfl; have m2 := M.2.2 2 _ rfl; have mf := M.2.1; have mz := M.1; have mn := World.new_ne v2 _ m0) | skip))
        | (go_at_call 60; (with_reducible refine (FDiv_any b7 _ _ bh sh dh _ _ _ O4.out ((Q0.out.later k).later (below_alloc _ _)) (P1.later (below_alloc _ _))).mono ?_); rintro e9 v2 ⟨⟨bs, ss, ds, rfl, P2⟩, hb⟩; obtain ⟨⟨p9, n9, c9, rfl⟩, p8, n8, c8, rfl⟩ := P2.forms; have k := bthen k (bthen (below_alloc _ _) hb); have z2 := k.size; have M := (BxAt.new v1 [.bool false, .slice none 0 0, .slice none 0 0] 106).later hb; have m0 := M.2.2 0 _ rfl; have m1 := M.2.2 1 _ rfl; have m2 := M.2.2 2 _ rfl; have mf := M.2.1; have mz := M.1; have mn := World.new_ne v2 _ m0))
    all_goals go_wp2_with fail
    all_goals go_meet
    all_goals rw [E4.out] at P2
    · with_reducible exact ⟨_, _, _, _, _, _, _, _, rfl, endA k P2⟩
    · with_reducible exact ⟨_, _, _, _, _, _, _, _, rfl, endB M k z1 P2⟩
    · with_reducible exact ⟨_, _, _, _, _, _, _, _, rfl, endB M k (Nat.le_refl _) P2⟩
  case rest =>
    obtain ⟨g, b9, p9, n9, c9, p8, n8, c8, rfl, X9, P9, k9⟩ := hcut
    have P := Lib.hid P9
    have B9 := Lib.hid (bthen B0.out k9)
    have x0 := X9.2.2 0 _ rfl
    have x1 := X9.2.2 1 _ rfl
    have x2 := X9.2.2 2 _ rfl
    clear X9 P9 k9 k a0 a1 a2
    go_wp2_with fail
    refine (Near_any b9 _ _ _ wc O5.out P.out).mono ?_
    rintro e9 w9 ⟨rfl, hb9⟩
    have B9 := Lib.hid (bthen B9.out hb9)
    rw [E5.out]
    clear hb9 x0 x1 x2
    go_wp2_with fail
    go_ret
    exact ⟨rfl, B9.out⟩
end Go.Proofs.Ytbmbibjidpgbnaa
