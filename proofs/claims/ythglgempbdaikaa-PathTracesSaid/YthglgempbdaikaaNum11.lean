/- Contracts of the reference's numbers: Mul. -/
import Derived.Test.YthglgempbdaikaaNum6
import Derived.Test.YthglgempbdaikaaNum8
import Derived.Test.YthglgempbdaikaaNumM
import Derived.Laws.OwnMore
import Derived.OwnWalk
namespace Go.Proofs.Ythglgempbdaikaa
open Go.RowKit

/-- a block of digits of ours, all of them -/
def OwnsM (w wr : World) (g N : Nat) (l : List Nat) : Prop := wr.ownsRow w.heap.size 137 1 (.slice (some ⟨g, 0, none⟩) N N) N (ints .u64 l) ∧ Below w.heap.size w wr
theorem OwnsM.cell {w wr : World} {g N : Nat} {l : List Nat} (h : OwnsM w wr g N l) (j : Nat) (hj : j < N) : wr.cell? ⟨g, j, none⟩ = some (.int .u64 (l.getD j 0 : Nat)) := by
  have hl : l.length = N := by have := h.1.1; simpa [ints] using this
  rw [h.1.cellAt j (by omega)]
  simp [ints, List.getD_eq_getElem?_getD, List.getElem?_eq_getElem (show j < l.length by omega)]
theorem OwnsM.frozen {w wr : World} {g N : Nat} {l : List Nat} (h : OwnsM w wr g N l) (j : Nat) : wr.frozen? ⟨g, j, none⟩ = false := h.1.frozenAt j
theorem OwnsM.drewN {w wr : World} {g N : Nat} {l : List Nat} (h : OwnsM w wr g N l) (n : Nat) : OwnsM w (wr.drewN n) g N l := ⟨h.1, below_drewN h.2 n⟩
theorem OwnsM.store {w wr : World} {g N : Nat} {l : List Nat} (h : OwnsM w wr g N l) (hg : w.heap.size ≤ g) (j : Nat) (z : Int) (x : Nat) (hz : z = (x : Int)) : OwnsM w (wr.setCell ⟨g, j, none⟩ (.int .u64 z)) g N (l.set j x) := by
  subst hz
  refine ⟨?_, h.2.setCell (p := ⟨g, j, none⟩) hg _⟩
  have := (h.1.stored j (.int .u64 (x : Int))).1
  simpa [ints, List.map_set] using this
set_option maxRecDepth 100000 in
set_option maxHeartbeats 1600000 in
theorem Mul_any (v u : Value) (a b : Nat) (w : World) (ha : Small a) (hb : Small b) (h : Nt w v a) (h2 : Nt w u b) :
    Calls Try.prog 76 #[v, u] w fun e w' => (∃ v', e = .returned v' ∧ Nt w' v' (a * b)) ∧ Below w.heap.size w w' := by
  obtain ⟨i0, hi, hz0, hz1, hz2⟩ := info_parts Try.info137
  have A := Lib.hid h
  have B := Lib.hid h2
  have la := ha.dg32
  have lb := hb.dg32
  have la2 := ha.dg16
  have lb2 := hb.dg16
  have HA := Lib.hid (dg_lt_pow (B := 65536) (by omega) a)
  have HB := Lib.hid (dg_lt_pow (B := 65536) (by omega) b)
  clear h h2 ha hb
  go_enter Try.func76, Try.ntmps76
  go_wp2_with fail
  refine (half_any _ a w (by omega) A.out).mono ?_
  rintro e w1 ⟨⟨v1, rfl, hd1⟩, hb1⟩
  have D1 := Lib.hid hd1
  have B1 := Lib.hid hb1
  clear hd1 hb1
  go_wp2_with fail
  refine (half_any _ b w1 (by omega) (B.out.later B1.out)).mono ?_
  rintro e w2 ⟨⟨v2, rfl, hd2⟩, hb2⟩
  have hd1 := D1.out.later hb2
  have B2 := Lib.hid (B1.out.trans (hb2.mono B1.out.size))
  obtain ⟨p1, c1, rfl, k1⟩ := hd1.cell
  obtain ⟨p2, c2, rfl, k2⟩ := hd2.cell
  clear hd1 hd2 hb2 B1 A B la lb D1
  obtain ⟨n1, hn1⟩ : ∃ n, n = (dg 65536 a).length := ⟨_, rfl⟩
  obtain ⟨n2, hn2⟩ : ∃ n, n = (dg 65536 b).length := ⟨_, rfl⟩
  rw [← hn1] at HA k1 la2 ⊢
  rw [← hn2] at HB k2 lb2 ⊢
  have K1 := Lib.hid k1
  have K2 := Lib.hid k2
  clear hn1 hn2 k1 k2
  go_wp2_with (at_make; go_loud (refine wpList_make_full _ rfl _ _ 141 rfl w2.heap.size 137 i0 (.int .u64 0) 1 Try.underlying141 hi hz0 hz1 _ _ _ _ (n1 + n2 + 1) rfl rfl (by omega) (by omega) ?b2 ?b3 (Nat.le_refl _) ?_))
  case b2 => rw [hz2]; omega
  case b3 => unfold maxLen; omega
  intro w3 hown3 hgrow3
  obtain ⟨g, hg⟩ : ∃ g, g = w2.heap.size := ⟨_, rfl⟩
  obtain ⟨N, hN⟩ : ∃ N, N = n1 + n2 + 1 := ⟨_, rfl⟩
  have O3 : Hid (OwnsM w2 w3 g N (List.replicate (n1 + n2 + 1) 0)) := Lib.hid (by
    rw [hg, hN]
    refine ⟨?_, (Below.refl _ _).grown hgrow3 (Nat.le_refl _) (fun k h => by cases h)⟩
    rw [toList_madeCells_one] at hown3
    simpa [ints] using hown3)
  have hN1 : N ≤ 9 := by omega
  have hN2 : n1 + n2 < N := by omega
  have hgl : Hid (w2.heap.size ≤ g) := Lib.hid (by omega)
  have HN := Lib.hid hN
  rw [← hg, ← hN]
  clear hown3 hgrow3 hg hN
  go_wp2_with fail
  go_loopw [8] (fun i wr => ∃ (ii : Nat) (l : List Nat), ii ≤ n1 ∧ i = .int .i64 ii ∧ MulIn a b n1 n2 ii 0 0 l ∧ OwnsM w2 wr g N l) (fun i _ => n1 - (intOf i).toNat)
  case atStart => exact ⟨0, _, by omega, rfl, MulIn.start a b n1 n2, O3.out⟩
  case round =>
    obtain ⟨ii, l, hii, rfl, hm, ho⟩ := hrel
    have M := Lib.hid hm
    have O := Lib.hid ho
    clear hm ho O3
    obtain ⟨wo, rfl⟩ : ∃ wo : World, wo = wr := ⟨_, rfl⟩
    by_cases hlt : ii < n1
    · go_wp2_with fail
      go_loopw [9, 10] (fun c k wz => ∃ (kk c' : Nat) (m : List Nat), kk ≤ n2 ∧ k = .int .i64 kk ∧ c = .int .u64 c' ∧ MulIn a b n1 n2 ii kk c' m ∧ OwnsM w2 wz g N m) (fun _ k _ => n2 - (intOf k).toNat)
      case atStart => exact ⟨0, 0, l, by omega, rfl, rfl, M.out, O.out⟩
      case round =>
        obtain ⟨kk, c, m, hkk, rfl, rfl, hm, ho⟩ := hrel
        have M2 := Lib.hid hm
        have O2 := Lib.hid ho
        have hc : c < 65536 := hm.2.2.1
        clear hm ho O
        by_cases hltk : kk < n2
        · have MN := M2.out.next hlt hltk
          obtain ⟨g1, o1, rfl, cx0⟩ := K1.out ii hlt
          obtain ⟨g2, o2, rfl, cy0⟩ := K2.out kk hltk
          have cx := cell_later O2.out.2 cx0
          have cy := cell_later O2.out.2 cy0
          have cd := O2.out.cell (ii + kk) (by omega)
          have fd := O2.out.frozen (ii + kk)
          obtain ⟨x, hx⟩ : ∃ x, x = a / 65536 ^ ii % 65536 := ⟨_, rfl⟩
          obtain ⟨y, hy⟩ : ∃ y, y = b / 65536 ^ kk % 65536 := ⟨_, rfl⟩
          obtain ⟨t, ht⟩ : ∃ t, t = m.getD (ii + kk) 0 := ⟨_, rfl⟩
          have hx1 : x < 65536 := by omega
          have hy1 : y < 65536 := by omega
          have ht1 : t < 65536 := by
            rw [ht, List.getD_eq_getElem?_getD, List.getElem?_eq_getElem (by have := M2.out.1; omega)]
            exact M2.out.2.1 _ (List.getElem_mem _)
          have hxy : x * y ≤ 65535 * 65535 := Nat.mul_le_mul (by omega) (by omega)
          rw [← hx] at cx MN
          rw [← hy] at cy MN
          rw [← ht] at cd MN
          clear cx0 cy0 hx hy ht
          obtain ⟨p, hp⟩ : ∃ p, p = x * y := ⟨_, rfl⟩
          rw [← hp] at hxy MN
          have hw1 : IntKind.u64.wrap ((x : Int) * (y : Int)) = (p : Int) := by
            rw [show (x : Int) * (y : Int) = (p : Int) by rw [hp]; simp]
            exact IntWalk.u64_in _ (by omega)
          have hw2 : IntKind.i64.wrap ((ii : Int) + (kk : Int)) = (ii : Int) + (kk : Int) := IntWalk.i64_in _ (by omega)
          have hw3 : ((ii : Int) + (kk : Int)).toNat = ii + kk := by omega
          have hw4 : IntKind.u64.wrap ((t : Int) + (p : Int)) = (t : Int) + (p : Int) := IntWalk.u64_in _ (by omega)
          have hw5 : IntKind.u64.wrap ((t : Int) + (p : Int) + (c : Int)) = (t : Int) + (p : Int) + (c : Int) := IntWalk.u64_in _ (by omega)
          have hw6 : (0 : Int) ≤ (ii : Int) + (kk : Int) := by omega
          have hw7 : (ii : Int) + (kk : Int) < (N : Int) := by omega
          have MN := Lib.hid MN
          clear hp
          go_wp2_with fail
          go_quiet (fail)
          go_wp2_with fail
          refine ⟨⟨kk + 1, (t + p + c) / 65536, _, by omega, by go_num, by go_num, MN.out, ?_⟩, by (first | (simp [intOf]; done) | (simp [intOf]; omega) | (simp only [intOf]; omega))⟩
          exact (O2.out.drewN _).store hgl.out (ii + kk) _ ((t + p + c) % 65536) (by omega)
        · obtain rfl : kk = n2 := by omega
          have MN := Lib.hid (M2.out.stop hlt HB.out)
          have cd := O2.out.cell (ii + kk) (by omega)
          have fd := O2.out.frozen (ii + kk)
          rw [M2.out.2.2.2.1 (ii + kk) (Nat.le_refl _)] at cd
          have hw2 : IntKind.i64.wrap ((ii : Int) + (kk : Int)) = (ii : Int) + (kk : Int) := IntWalk.i64_in _ (by omega)
          have hw3 : ((ii : Int) + (kk : Int)).toNat = ii + kk := by omega
          have hw6 : (0 : Int) ≤ (ii : Int) + (kk : Int) := by omega
          have hw7 : (ii : Int) + (kk : Int) < (N : Int) := by omega
          go_wp2_with fail
          refine ⟨⟨ii + 1, _, by omega, by go_num, MN.out, ?_⟩, by (first | (simp [intOf]; done) | (simp [intOf]; omega) | (simp only [intOf]; omega))⟩
          exact O2.out.store hgl.out (ii + kk) _ c (by omega)
    · obtain rfl : ii = n1 := by omega
      have hv := Lib.hid (M.out.done HA.out)
      have hlN : l.length = N := by have := M.out.1; have := HN.out; omega
      go_wp2_with fail
      refine (words_any _ l wo M.out.2.1 (by omega) (Rd.of_owns O.out.1 (by omega)) ⟨_, _, _, rfl, by omega⟩).mono ?_
      rintro e w6 ⟨⟨v6, rfl, h6⟩, hb6⟩
      rw [hv.out] at h6
      have H6 := Lib.hid h6
      have B6 := Lib.hid ((B2.out.trans (O.out.2.mono B2.out.size)).trans (hb6.mono (Nat.le_trans B2.out.size O.out.2.size)))
      clear h6 hb6
      go_wp2_with fail
      go_ret
      exact ⟨⟨_, rfl, H6.out⟩, B6.out⟩
end Go.Proofs.Ythglgempbdaikaa
