/- Contracts of the reference's numbers: Div. -/
import Derived.Test.YthglgempbdaikaaNum8
import Derived.Test.YthglgempbdaikaaNum7
import Derived.Deep.RegionWith
namespace Go.Proofs.Ythglgempbdaikaa
open Go.RowKit

theorem Small.u64 {a : Nat} (h : Small a) : (a : Int) ≤ U64 := by unfold Small M64 at h; unfold U64; omega
def DivPost (a b : Nat) (w : World) (e : Ending) (w' : World) : Prop := (∃ v' u', e = .returned (.tuple #[v', u', .bool true]) ∧ Nt w' v' (a / b) ∧ Nt w' u' (a % b)) ∧ Below w.heap.size w w'
set_option maxRecDepth 100000 in
set_option maxHeartbeats 3200000 in
theorem Div_any (v u : Value) (a b : Nat) (w : World) (ha : Small a) (hb : Small b) (hb0 : 0 < b) (h : Nt w v a) (h2 : Nt w u b) :
    Calls Try.prog 91 #[v, u] w (DivPost a b w) := by
  have A := Lib.hid h
  have B := Lib.hid h2
  have la := ha.dg32
  have lb := hb.dg32
  have la2 := ha.dg16
  have lb2 := hb.dg16
  have lb3 : 0 < (dg 65536 b).length := by
    rcases Nat.eq_zero_or_pos (dg 65536 b).length with h1 | h1
    · rw [dg_len_zero (by omega)] at h1; omega
    · exact h1
  have HA := Lib.hid ha
  have HB := Lib.hid hb
  clear h h2 ha hb
  go_enter Try.func91, Try.ntmps91
  go_wp2_with fail
  refine (half_any _ a w (by omega) A.out).mono ?_
  rintro e w1 ⟨⟨v1, rfl, hd1⟩, hb1⟩
  have D1 := Lib.hid hd1
  have B1 := Lib.hid hb1
  clear hd1 hb1
  go_wp2_with fail
  refine (half_any _ b w1 (by omega) (B.out.later B1.out)).mono ?_
  rintro e w2 ⟨⟨v2, rfl, hd2⟩, hb2⟩
  have D1 := Lib.hid (D1.out.later hb2)
  have D2 := Lib.hid hd2
  have B2 := Lib.hid (B1.out.trans (hb2.mono B1.out.size))
  obtain ⟨p1, c1, rfl⟩ := D1.out.len
  obtain ⟨p2, c2, rfl⟩ := D2.out.len
  clear hd2 hb2 B1 A B la lb
  obtain ⟨n1, hn1⟩ : ∃ n, n = (dg 65536 a).length := ⟨_, rfl⟩
  obtain ⟨n2, hn2⟩ : ∃ n, n = (dg 65536 b).length := ⟨_, rfl⟩
  rw [← hn1] at D1 la2 ⊢
  rw [← hn2] at D2 lb2 lb3 ⊢
  have hz : ((n2 : Int) == 0) = false := by simp; omega
  have hl1 : (n1 : Int) ≤ 4 := by omega
  have hl2 : (n2 : Int) ≤ 4 := by omega
  clear hn1 hn2
  go_wp2_with fail
  refine (small_any _ a w2 HA.out D1.out).mono ?_
  rintro e w' ⟨rfl, rfl⟩
  go_wp2_with fail
  refine (small_any _ b w2 HB.out D2.out).mono ?_
  rintro e w' ⟨rfl, rfl⟩
  clear hz hl1 hl2 la2 lb2 lb3
  have hq0 := (HA.out.le (Nat.div_le_self a b)).u64
  have hr0 := (HA.out.le (Nat.mod_le a b)).u64
  have t1 : (a : Int).tdiv (b : Int) = ((a / b : Nat) : Int) := by rw [Int.tdiv_eq_ediv_of_nonneg (by omega)]; rfl
  have t2 : (a : Int).tmod (b : Int) = ((a % b : Nat) : Int) := by rw [Int.tmod_eq_emod_of_nonneg (by omega)]; rfl
  have t3 : (a : Int) / (b : Int) = ((a / b : Nat) : Int) := rfl
  have t4 : (a : Int) % (b : Int) = ((a % b : Nat) : Int) := rfl
  obtain ⟨q, hq⟩ : ∃ q, q = a / b := ⟨_, rfl⟩
  obtain ⟨r, hr⟩ : ∃ r, r = a % b := ⟨_, rfl⟩
  rw [← hq] at hq0 t1 t3
  rw [← hr] at hr0 t2 t4
  have w1' : IntKind.u64.wrap (q : Int) = (q : Int) := IntWalk.u64_in _ (by unfold U64 at hq0; omega)
  have w2' : IntKind.u64.wrap (r : Int) = (r : Int) := IntWalk.u64_in _ (by unfold U64 at hr0; omega)
  have hbz : ((b : Int) == 0) = false := by simp; omega
  have HQ := Lib.hid (And.intro hq hr)
  clear hq hr
  go_wp2_with fail
  go_region_with ((go_at_call 78; refine (Of_any _ _ (by omega) (by assumption)).mono ?_; rintro e w9 ⟨⟨v9, rfl, h9⟩, hb9⟩))
  all_goals
    rename_i wq hbq vq hnq
    have B9 : Hid (Below w.heap.size w w9) := Lib.hid (by
      have b1 : Below w2.heap.size w2 wq := (Below.refl _ w2).drew.trans hbq
      have b2 := B2.out.trans (b1.mono B2.out.size)
      exact b2.trans (hb9.mono b2.size))
    have H1 := Lib.hid (hnq.later hb9)
    have H2 := Lib.hid h9
    clear hbq hnq hb9 h9
    go_wp2_with fail
    refine bodyPost_ret (v := .tuple #[vq, v9, .bool true]) ?_ rfl ⟨⟨vq, v9, rfl, ?_, ?_⟩, B9.out⟩
    · simp [results, Try.results91, go_sem]
    · rw [← HQ.out.1]; exact H1.out
    · rw [← HQ.out.2]; exact H2.out
end Go.Proofs.Ythglgempbdaikaa
