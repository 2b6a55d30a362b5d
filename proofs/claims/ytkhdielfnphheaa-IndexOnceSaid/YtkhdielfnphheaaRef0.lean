/- Contracts of the reference's first places of names. -/
import Derived.Test.YtkhdielfnphheaaAsk0
namespace Go.Proofs.Ytkhdielfnphheaa
open Go.RowKit

theorem fstI_none {N : Nat → Int} {x : Int} {n : Nat} (h : ∀ i, i < n → N i ≠ x) : fstI N x n = -1 := by
  rcases fstI_spec N x n with ⟨h1, _⟩ | ⟨p, _, h2, h3, _⟩
  · exact h1
  · exact absurd h3 (h p h2)
set_option maxRecDepth 100000 in
set_option maxHeartbeats 1600000 in
theorem rramp17 (S : Sc) (s0 s1 s2 s3 s4 s5 s6 hd mt it rm gl pc : Value) (x : Int) (w : World) (hD : DataV S rm gl pc w) (ok : ScOk S) :
    Calls Try.prog 17 #[.agg #[s0, s1, s2, s3, s4, s5, s6, hd, mt, rm, gl, pc, it], .int .i64 x] w (RetPost (.int .i64 (fstI (nmR S) x S.nr)) w) := by
  obtain ⟨rp, rc, rfl⟩ : ∃ a c, rm = .slice a S.nr c := hD.1.slice
  obtain ⟨w1, hw1⟩ : ∃ w1, w1 = w.alloc (.cells #[s0, s1, s2, s3, s4, s5, s6, hd, mt, .slice rp S.nr rc, gl, pc, it] 31) := ⟨_, rfl⟩
  have B1 : Hid (Below w.heap.size w w1) := Lib.hid (by rw [hw1]; exact below_alloc _ _)
  have X1 := (BxAt.new w [s0, s1, s2, s3, s4, s5, s6, hd, mt, .slice rp S.nr rc, gl, pc, it] 31).2.2 9 _ rfl
  have x1 : w1.cell? ⟨w.heap.size, 9, none⟩ = some (.slice rp S.nr rc) := by rw [hw1]; exact X1
  have HW := Lib.hid hw1
  clear hw1 X1
  obtain ⟨r, hr⟩ : ∃ r, r = fstI (nmR S) x S.nr := ⟨_, rfl⟩
  rw [← hr]
  have HR := Lib.hid hr
  have DD := Lib.hid (hD.later B1.out)
  have nb : S.nr ≤ 4000000000000 := by have := ok.br; omega
  clear hr hD ok
  go_enter Try.func17, Try.ntmps17
  go_wp2_with fail
  rw [← HW.out]
  go_loop [5] (fun i => ∃ k : Nat, i = .int .i64 k ∧ k ≤ S.nr ∧ Hid (∀ j, j < k → nmR S j ≠ x)) (fun i => S.nr - (intOf i).toNat)
  case atStart => exact ⟨0, rfl, by omega, Lib.hid (fun j hj => by omega)⟩
  case round =>
    obtain ⟨k, rfl, hk, hn⟩ := hrel
    by_cases hlt : k < S.nr
    · have hrow := DD.out.1
      obtain ⟨a, cap, he, hnn, hcell⟩ := hrow
      obtain ⟨g, off, rfl, hc3⟩ := hcell (by omega)
      obtain ⟨rfl, rfl⟩ : rp = some ⟨g, off, none⟩ ∧ rc = cap := by simpa using he
      have c0 : w1.cell? ⟨g, off + k * 15, none⟩ = some (.int .i64 (nmR S k)) := hc3 k 0 hlt (by omega)
      have kI : (k : Int) < (S.nr : Int) := by omega
      have k0 : (0 : Int) ≤ (k : Int) := by omega
      clear hc3 hcell hnn he
      obtain ⟨y, hy⟩ : ∃ y, y = nmR S k := ⟨_, rfl⟩
      rw [← hy] at c0
      have HY := Lib.hid hy
      clear hy
      by_cases e : y = x
      · have hr2 : Hid (r = k) := Lib.hid (by rw [HR.out]; exact fstI_first hlt (by rw [← HY.out]; exact e) hn.out)
        subst e
        go_wp2_with fail
        go_ret
        exact ⟨by rw [hr2.out]; rfl, B1.out⟩
      · have ne : (y == x) = false := by simpa using e
        have HN : Hid (∀ j, j < k + 1 → nmR S j ≠ x) := Lib.hid (fun j hj => by
          by_cases ej : j = k
          · rw [ej, ← HY.out]; exact e
          · exact hn.out j (by omega))
        go_wp2_with fail
        go_round
        case rel => exact ⟨k + 1, by go_num, by omega, HN⟩
        case measure => (first | (simp [intOf]; done) | (simp [intOf]; omega) | (simp only [intOf]; omega))
    · obtain rfl : k = S.nr := by omega
      have kI : ¬ (S.nr : Int) < (S.nr : Int) := by omega
      have hr2 : Hid (r = -1) := Lib.hid (by rw [HR.out]; exact fstI_none hn.out)
      go_wp2_with fail
      go_ret
      exact ⟨by rw [hr2.out]; rfl, B1.out⟩
set_option maxRecDepth 100000 in
set_option maxHeartbeats 1600000 in
theorem rpic19 (S : Sc) (s0 s1 s2 s3 s4 s5 s6 hd mt it rm gl pc : Value) (x : Int) (w : World) (hD : DataV S rm gl pc w) (ok : ScOk S) :
    Calls Try.prog 19 #[.agg #[s0, s1, s2, s3, s4, s5, s6, hd, mt, rm, gl, pc, it], .int .i64 x] w (RetPost (.int .i64 (fstI (nmP S) x S.np)) w) := by
  obtain ⟨pp, pk, rfl⟩ : ∃ a c, pc = .slice a S.np c := by obtain ⟨_, h, _⟩ := hD.2.2; exact h.slice
  obtain ⟨w1, hw1⟩ : ∃ w1, w1 = w.alloc (.cells #[s0, s1, s2, s3, s4, s5, s6, hd, mt, rm, gl, .slice pp S.np pk, it] 31) := ⟨_, rfl⟩
  have B1 : Hid (Below w.heap.size w w1) := Lib.hid (by rw [hw1]; exact below_alloc _ _)
  have X1 := (BxAt.new w [s0, s1, s2, s3, s4, s5, s6, hd, mt, rm, gl, .slice pp S.np pk, it] 31).2.2 11 _ rfl
  have x1 : w1.cell? ⟨w.heap.size, 11, none⟩ = some (.slice pp S.np pk) := by rw [hw1]; exact X1
  have HW := Lib.hid hw1
  clear hw1 X1
  obtain ⟨r, hr⟩ : ∃ r, r = fstI (nmP S) x S.np := ⟨_, rfl⟩
  rw [← hr]
  have HR := Lib.hid hr
  have DD := Lib.hid (hD.later B1.out)
  have nb : S.np ≤ 4000000000000 := by have := ok.bp; omega
  clear hr hD ok
  go_enter Try.func19, Try.ntmps19
  go_wp2_with fail
  rw [← HW.out]
  go_loop [5] (fun i => ∃ k : Nat, i = .int .i64 k ∧ k ≤ S.np ∧ Hid (∀ j, j < k → nmP S j ≠ x)) (fun i => S.np - (intOf i).toNat)
  case atStart => exact ⟨0, rfl, by omega, Lib.hid (fun j hj => by omega)⟩
  case round =>
    obtain ⟨k, rfl, hk, hn⟩ := hrel
    by_cases hlt : k < S.np
    · obtain ⟨_, _, sv, hrow, hst⟩ := DD.out
      obtain ⟨a, cap, he, hnn, hcell⟩ := hrow
      obtain ⟨g, off, rfl, hc3⟩ := hcell (by omega)
      obtain ⟨rfl, rfl⟩ : pp = some ⟨g, off, none⟩ ∧ pk = cap := by simpa using he
      have c0 : w1.cell? ⟨g, off + k * 4, none⟩ = some (.int .i64 (nmP S k)) := hc3 k 0 hlt (by omega)
      have kI : (k : Int) < (S.np : Int) := by omega
      have k0 : (0 : Int) ≤ (k : Int) := by omega
      clear hc3 hcell hnn he hst
      obtain ⟨y, hy⟩ : ∃ y, y = nmP S k := ⟨_, rfl⟩
      rw [← hy] at c0
      have HY := Lib.hid hy
      clear hy
      by_cases e : y = x
      · have hr2 : Hid (r = k) := Lib.hid (by rw [HR.out]; exact fstI_first hlt (by rw [← HY.out]; exact e) hn.out)
        subst e
        go_wp2_with fail
        go_ret
        exact ⟨by rw [hr2.out]; rfl, B1.out⟩
      · have ne : (y == x) = false := by simpa using e
        have HN : Hid (∀ j, j < k + 1 → nmP S j ≠ x) := Lib.hid (fun j hj => by
          by_cases ej : j = k
          · rw [ej, ← HY.out]; exact e
          · exact hn.out j (by omega))
        go_wp2_with fail
        go_round
        case rel => exact ⟨k + 1, by go_num, by omega, HN⟩
        case measure => (first | (simp [intOf]; done) | (simp [intOf]; omega) | (simp only [intOf]; omega))
    · obtain rfl : k = S.np := by omega
      have kI : ¬ (S.np : Int) < (S.np : Int) := by omega
      have hr2 : Hid (r = -1) := Lib.hid (by rw [HR.out]; exact fstI_none hn.out)
      go_wp2_with fail
      go_ret
      exact ⟨by rw [hr2.out]; rfl, B1.out⟩
set_option maxRecDepth 100000 in
set_option maxHeartbeats 1600000 in
theorem rfind21 (S : Sc) (rm gl pc : Value) (x : Int) (w : World) (hD : DataV S rm gl pc w) (ok : ScOk S) :
    Calls Try.prog 21 #[gl, .int .i64 x] w (RetPost (.int .i64 (fstI (nmG S) x S.ng)) w) := by
  obtain ⟨gp, gc, rfl⟩ : ∃ a c, gl = .slice a S.ng c := by obtain ⟨_, h, _⟩ := hD.2.1; exact h.slice
  obtain ⟨r, hr⟩ : ∃ r, r = fstI (nmG S) x S.ng := ⟨_, rfl⟩
  rw [← hr]
  have HR := Lib.hid hr
  have DD := Lib.hid (hD)
  have nb : S.ng ≤ 4000000000000 := by have := ok.bg; omega
  clear hr hD ok
  go_enter Try.func21, Try.ntmps21
  go_wp2_with fail
  go_loop [5] (fun i => ∃ k : Nat, i = .int .i64 k ∧ k ≤ S.ng ∧ Hid (∀ j, j < k → nmG S j ≠ x)) (fun i => S.ng - (intOf i).toNat)
  case atStart => exact ⟨0, rfl, by omega, Lib.hid (fun j hj => by omega)⟩
  case round =>
    obtain ⟨k, rfl, hk, hn⟩ := hrel
    by_cases hlt : k < S.ng
    · obtain ⟨_, ⟨sv, hrow, hst⟩, _⟩ := DD.out
      obtain ⟨a, cap, he, hnn, hcell⟩ := hrow
      obtain ⟨g, off, rfl, hc3⟩ := hcell (by omega)
      obtain ⟨rfl, rfl⟩ : gp = some ⟨g, off, none⟩ ∧ gc = cap := by simpa using he
      have c0 : w.cell? ⟨g, off + k * 3, none⟩ = some (.int .i64 (nmG S k)) := hc3 k 0 hlt (by omega)
      have kI : (k : Int) < (S.ng : Int) := by omega
      have k0 : (0 : Int) ≤ (k : Int) := by omega
      clear hc3 hcell hnn he hst
      obtain ⟨y, hy⟩ : ∃ y, y = nmG S k := ⟨_, rfl⟩
      rw [← hy] at c0
      have HY := Lib.hid hy
      clear hy
      by_cases e : y = x
      · have hr2 : Hid (r = k) := Lib.hid (by rw [HR.out]; exact fstI_first hlt (by rw [← HY.out]; exact e) hn.out)
        subst e
        go_wp2_with fail
        go_ret
        exact ⟨by rw [hr2.out]; rfl, Below.refl _ _⟩
      · have ne : (y == x) = false := by simpa using e
        have HN : Hid (∀ j, j < k + 1 → nmG S j ≠ x) := Lib.hid (fun j hj => by
          by_cases ej : j = k
          · rw [ej, ← HY.out]; exact e
          · exact hn.out j (by omega))
        go_wp2_with fail
        go_round
        case rel => exact ⟨k + 1, by go_num, by omega, HN⟩
        case measure => (first | (simp [intOf]; done) | (simp [intOf]; omega) | (simp only [intOf]; omega))
    · obtain rfl : k = S.ng := by omega
      have kI : ¬ (S.ng : Int) < (S.ng : Int) := by omega
      have hr2 : Hid (r = -1) := Lib.hid (by rw [HR.out]; exact fstI_none hn.out)
      go_wp2_with fail
      go_ret
      exact ⟨by rw [hr2.out]; rfl, Below.refl _ _⟩
end Go.Proofs.Ytkhdielfnphheaa
