/- Contract of Index.Ramp. -/
import Derived.Test.YtkhdielfnphheaaAsk0
namespace Go.Proofs.Ytkhdielfnphheaa
open Go.RowKit

abbrev rampL (S : Sc) (p : Nat) : List Value := [.int .i64 (S.R p 0), .int .i64 (S.R p 1), .int .i64 (S.R p 2), .int .i64 (S.R p 3), .int .i64 (S.R p 4), .int .i64 (S.R p 5), .int .i64 (S.R p 6), .int .u8 (S.R p 7), .int .u8 (S.R p 8), .int .u8 (S.R p 9), .int .u8 (S.R p 10), .int .u8 (S.R p 11), .int .u8 (S.R p 12), .int .u8 (S.R p 13), .int .u8 (S.R p 14)]
abbrev rampZ : List Value := [.int .i64 0, .int .i64 0, .int .i64 0, .int .i64 0, .int .i64 0, .int .i64 0, .int .i64 0, .int .u8 0, .int .u8 0, .int .u8 0, .int .u8 0, .int .u8 0, .int .u8 0, .int .u8 0, .int .u8 0]
/-- the first ramp of a name, or none -/
def RampPost (S : Sc) (X : Nat) (D : Nat → Prop) (x : Int) (w : World) (e : Ending) (w' : World) : Prop := FrmA w w' X ∧ (∃ D', (∀ g, D' g → D g ∨ w.heap.size ≤ g) ∧ IdxAD S X D' w') ∧
  ((fstI (nmR S) x S.nr = -1 ∧ e = .returned (.tuple #[.agg rampZ.toArray, .bool false])) ∨ ∃ p : Nat, p < S.nr ∧ fstI (nmR S) x S.nr = p ∧ e = .returned (.tuple #[.agg (rampL S p).toArray, .bool true]))
set_option maxRecDepth 100000 in
set_option maxHeartbeats 6400000 in
theorem ramp_any (S : Sc) (X : Nat) (D : Nat → Prop) (x : Int) (w : World) (h : IdxFD S X D w ∨ IdxAD S X D w) (ok : ScOk S) : Calls Try.prog 16 #[.pointer (some ⟨X, 0, none⟩), .int .i64 x] w (RampPost S X D x w) := by
  have hX : X < w.heap.size := by rcases h with h | h <;> exact h.lt
  have hDl : ∀ g, D g → g < w.heap.size := by
    intro g hg
    rcases h with h | h
    · exact (h.1 g hg).2
    · exact (h.1 g hg).2
  obtain ⟨w1, hw1⟩ : ∃ w1, w1 = w.alloc (.cells rampZ.toArray 58) := ⟨_, rfl⟩
  obtain ⟨A, hA⟩ : ∃ A, A = w.heap.size := ⟨_, rfl⟩
  have B1 : Hid (Below w.heap.size w w1) := Lib.hid (by rw [hw1]; exact below_alloc _ _)
  have G1 : Hid (w1.heap[A]? = some (.cells rampZ.toArray 58 (0, 0))) := Lib.hid (by rw [hw1, hA]; exact heap_alloc_new w _)
  have S1 : Hid (w1.heap.size = A + 1) := Lib.hid (by rw [hw1, hA]; simp)
  have C := Lib.hid (ask_any S X D w1 (by
    rcases h with h | h
    · exact .inl (h.later B1.out)
    · exact .inr (h.later B1.out)) ok)
  have XA : Hid (X < A) := Lib.hid (by rw [hA]; exact hX)
  have DA : Hid (∀ g, D g → g < A) := Lib.hid (by rw [hA]; exact hDl)
  have HW := Lib.hid (And.intro hw1 hA)
  have nrb : S.nr ≤ 3600000000000 := by have := ok.br; omega
  clear h hX hDl hw1 hA ok
  go_enter Try.func16, Try.ntmps16
  go_wp2_with fail
  rw [← HW.out.2, ← HW.out.1]
  refine C.out.mono ?_
  rintro e w2 ⟨rfl, hf, D', hD', ha⟩
  have F2 := Lib.hid hf
  have I2 := Lib.hid ha
  have nA : Hid (¬ D' A) := Lib.hid (fun hh => by
    rcases hD' A hh with h1 | h1
    · have := DA.out A h1; omega
    · rw [S1.out] at h1; omega)
  have G2 : Hid (w2.heap[A]? = some (.cells rampZ.toArray 58 (0, 0))) := Lib.hid ((hf.block A (by rw [S1.out]; omega) (by have := XA.out; omega)).trans G1.out)
  obtain ⟨-, hd, rm, gl, pc, t1, b1, t2, b2, t3, b3, hX, -, hK, hT⟩ := ha
  have T1 := hT.now.1
  obtain ⟨pt, mt, ct, rfl⟩ := T1.slice
  have FI := Lib.hid (fun x => find_any (X + 1) _ b1 (nmR S) S.nr x w2 T1 nrb)
  obtain ⟨rp, rc, rfl⟩ : ∃ a c, rm = .slice a S.nr c := hK.now.1.slice
  have DR := Lib.hid hK.now.1
  have x17 := hX.2.2 17 _ rfl
  have x18 := hX.2.2 18 _ rfl
  have XX := Lib.hid hX
  have HD := Lib.hid hD'
  clear hf hD' hK hT hX T1
  go_wp2_with fail
  have R := fstI_spec (nmR S) x S.nr
  rcases R with ⟨h1, -⟩ | ⟨p, h1, h2, -⟩
  · have C2 := FI.out x
    rw [h1] at C2
    have H1 := Lib.hid h1
    clear h1
    refine C2.mono ?_
    rintro e w3 ⟨rfl, hb3⟩
    have B3 := Lib.hid hb3
    have G3 : Hid (w3.heap[A]? = some (.cells rampZ.toArray 58 (0, 0))) := Lib.hid ((hb3.block A (Nat.lt_of_lt_of_le (by rw [S1.out]; omega) F2.out.size)).trans G2.out)
    clear hb3 C2 x17 x18
    go_wp2_with (refine wpList_store_row (o := ⟨none, Op.store 58 (.tmp 4) (.tmp 19), _, _, _, _⟩) (w := w3) rfl 58 (.tmp 4) (.tmp 19) rfl A rampZ.toArray rfl rfl 58 rampZ.toArray G3.out Try.size58 rfl (by simp [Value.oneCell']) ?_)
    have GF := setRow_heap w3 A _ rampZ.toArray 58 (0, 0) G3.out
    have FA : Hid (FrmA w2 (w3.setRow A rampZ.toArray) A) := Lib.hid ((FrmA.of_below B3.out).row _)
    obtain ⟨wf, hwf⟩ : ∃ wf, wf = w3.setRow A rampZ.toArray := ⟨_, rfl⟩
    rw [← hwf] at GF FA ⊢
    have RF := BxAt.of_heap GF
    clear hwf
    have q0 := RF.2.2 0 _ rfl
    have q1 := RF.2.2 1 _ rfl
    have q2 := RF.2.2 2 _ rfl
    have q3 := RF.2.2 3 _ rfl
    have q4 := RF.2.2 4 _ rfl
    have q5 := RF.2.2 5 _ rfl
    have q6 := RF.2.2 6 _ rfl
    have q7 := RF.2.2 7 _ rfl
    have q8 := RF.2.2 8 _ rfl
    have q9 := RF.2.2 9 _ rfl
    have q10 := RF.2.2 10 _ rfl
    have q11 := RF.2.2 11 _ rfl
    have q12 := RF.2.2 12 _ rfl
    have q13 := RF.2.2 13 _ rfl
    have q14 := RF.2.2 14 _ rfl
    refine bodyPost_ret (v := .tuple #[.agg rampZ.toArray, .bool false]) ?_ rfl ⟨?_, ?_, .inl ⟨H1.out, rfl⟩⟩
    · simp [results, Try.results16, go_sem, q0, q1, q2, q3, q4, q5, q6, q7, q8, q9, q10, q11, q12, q13, q14]
    · exact ((FrmA.of_below B1.out).trans F2.out).next FA.out (by rw [← HW.out.2]; omega)
    · exact ⟨D', fun g hg => (HD.out g hg).elim .inl (fun h => .inr (by rw [S1.out] at h; rw [← HW.out.2]; omega)), I2.out.frm FA.out nA.out (by have := XA.out; omega)⟩
  · have C2 := FI.out x
    rw [h1] at C2
    have H1 := Lib.hid h1
    clear h1
    refine C2.mono ?_
    rintro e w3 ⟨rfl, hb3⟩
    have B3 := Lib.hid hb3
    have G3 : Hid (w3.heap[A]? = some (.cells rampZ.toArray 58 (0, 0))) := Lib.hid ((hb3.block A (Nat.lt_of_lt_of_le (by rw [S1.out]; omega) F2.out.size)).trans G2.out)
    have x9 := (XX.out.later hb3).2.2 9 _ rfl
    obtain ⟨a, cap, he, hnn, hcell⟩ := DR.out.later hb3
    obtain ⟨g, off, rfl, hc3⟩ := hcell (by omega)
    obtain ⟨rfl, rfl⟩ : rp = some ⟨g, off, none⟩ ∧ rc = cap := by simpa using he
    have c0 : w3.cell? ⟨g, off + p * 15, none⟩ = some (.int .i64 (S.R p 0)) := hc3 p 0 h2 (by omega)
    have c1 : w3.cell? ⟨g, off + p * 15 + 1, none⟩ = some (.int .i64 (S.R p 1)) := hc3 p 1 h2 (by omega)
    have c2 : w3.cell? ⟨g, off + p * 15 + 2, none⟩ = some (.int .i64 (S.R p 2)) := hc3 p 2 h2 (by omega)
    have c3 : w3.cell? ⟨g, off + p * 15 + 3, none⟩ = some (.int .i64 (S.R p 3)) := hc3 p 3 h2 (by omega)
    have c4 : w3.cell? ⟨g, off + p * 15 + 4, none⟩ = some (.int .i64 (S.R p 4)) := hc3 p 4 h2 (by omega)
    have c5 : w3.cell? ⟨g, off + p * 15 + 5, none⟩ = some (.int .i64 (S.R p 5)) := hc3 p 5 h2 (by omega)
    have c6 : w3.cell? ⟨g, off + p * 15 + 6, none⟩ = some (.int .i64 (S.R p 6)) := hc3 p 6 h2 (by omega)
    have c7 : w3.cell? ⟨g, off + p * 15 + 7, none⟩ = some (.int .u8 (S.R p 7)) := hc3 p 7 h2 (by omega)
    have c8 : w3.cell? ⟨g, off + p * 15 + 8, none⟩ = some (.int .u8 (S.R p 8)) := hc3 p 8 h2 (by omega)
    have c9 : w3.cell? ⟨g, off + p * 15 + 9, none⟩ = some (.int .u8 (S.R p 9)) := hc3 p 9 h2 (by omega)
    have c10 : w3.cell? ⟨g, off + p * 15 + 10, none⟩ = some (.int .u8 (S.R p 10)) := hc3 p 10 h2 (by omega)
    have c11 : w3.cell? ⟨g, off + p * 15 + 11, none⟩ = some (.int .u8 (S.R p 11)) := hc3 p 11 h2 (by omega)
    have c12 : w3.cell? ⟨g, off + p * 15 + 12, none⟩ = some (.int .u8 (S.R p 12)) := hc3 p 12 h2 (by omega)
    have c13 : w3.cell? ⟨g, off + p * 15 + 13, none⟩ = some (.int .u8 (S.R p 13)) := hc3 p 13 h2 (by omega)
    have c14 : w3.cell? ⟨g, off + p * 15 + 14, none⟩ = some (.int .u8 (S.R p 14)) := hc3 p 14 h2 (by omega)
    have pI : (p : Int) < (S.nr : Int) := by omega
    have p0 : (0 : Int) ≤ (p : Int) := by omega
    have p1 : ¬ (p : Int) < 0 := by omega
    clear hb3 C2 x17 x18 hc3 hcell hnn he
    go_wp2_with (refine wpList_store_row (o := ⟨none, Op.store 58 (.tmp 4) (.tmp 27), _, _, _, _⟩) (w := w3) rfl 58 (.tmp 4) (.tmp 27) rfl A (rampL S p).toArray rfl rfl 58 rampZ.toArray G3.out Try.size58 rfl (by simp [Value.oneCell']) ?_)
    have GF := setRow_heap w3 A _ (rampL S p).toArray 58 (0, 0) G3.out
    have FA : Hid (FrmA w2 (w3.setRow A (rampL S p).toArray) A) := Lib.hid ((FrmA.of_below B3.out).row _)
    obtain ⟨wf, hwf⟩ : ∃ wf, wf = w3.setRow A (rampL S p).toArray := ⟨_, rfl⟩
    rw [← hwf] at GF FA ⊢
    have RF := BxAt.of_heap GF
    clear hwf
    have q0 := RF.2.2 0 _ rfl
    have q1 := RF.2.2 1 _ rfl
    have q2 := RF.2.2 2 _ rfl
    have q3 := RF.2.2 3 _ rfl
    have q4 := RF.2.2 4 _ rfl
    have q5 := RF.2.2 5 _ rfl
    have q6 := RF.2.2 6 _ rfl
    have q7 := RF.2.2 7 _ rfl
    have q8 := RF.2.2 8 _ rfl
    have q9 := RF.2.2 9 _ rfl
    have q10 := RF.2.2 10 _ rfl
    have q11 := RF.2.2 11 _ rfl
    have q12 := RF.2.2 12 _ rfl
    have q13 := RF.2.2 13 _ rfl
    have q14 := RF.2.2 14 _ rfl
    refine bodyPost_ret (v := .tuple #[.agg (rampL S p).toArray, .bool true]) ?_ rfl ⟨?_, ?_, .inr ⟨p, h2, H1.out, rfl⟩⟩
    · simp [results, Try.results16, go_sem, q0, q1, q2, q3, q4, q5, q6, q7, q8, q9, q10, q11, q12, q13, q14]
    · exact ((FrmA.of_below B1.out).trans F2.out).next FA.out (by rw [← HW.out.2]; omega)
    · exact ⟨D', fun g hg => (HD.out g hg).elim .inl (fun h => .inr (by rw [S1.out] at h; rw [← HW.out.2]; omega)), I2.out.frm FA.out nA.out (by have := XA.out; omega)⟩
set_option maxRecDepth 100000 in
set_option maxHeartbeats 3200000 in
theorem ramp_none (x : Int) (w : World) : Calls Try.prog 16 #[.pointer none, .int .i64 x] w (RetPost (.tuple #[.agg rampZ.toArray, .bool false]) w) := by
  obtain ⟨w1, hw1⟩ : ∃ w1, w1 = w.alloc (.cells rampZ.toArray 58) := ⟨_, rfl⟩
  obtain ⟨A, hA⟩ : ∃ A, A = w.heap.size := ⟨_, rfl⟩
  have B1 : Hid (Below A w w1) := Lib.hid (by rw [hw1, hA]; exact below_alloc _ _)
  have G1 : Hid (w1.heap[A]? = some (.cells rampZ.toArray 58 (0, 0))) := Lib.hid (by rw [hw1, hA]; exact heap_alloc_new w _)
  have S1 : Hid (w1.heap.size = A + 1) := Lib.hid (by rw [hw1, hA]; simp)
  have C := Lib.hid (ask_none w1)
  have HW := Lib.hid (And.intro hw1 hA)
  clear hw1 hA
  go_enter Try.func16, Try.ntmps16
  go_wp2_with fail
  rw [← HW.out.2, ← HW.out.1]
  refine C.out.mono ?_
  rintro e w3 ⟨rfl, hb3⟩
  have B3 := Lib.hid hb3
  have G3 : Hid (w3.heap[A]? = some (.cells rampZ.toArray 58 (0, 0))) := Lib.hid ((hb3.block A (by rw [S1.out]; omega)).trans G1.out)
  clear hb3 C
  go_wp2_with (refine wpList_store_row (o := ⟨none, Op.store 58 (.tmp 4) (.tmp 10), _, _, _, _⟩) (w := w3) rfl 58 (.tmp 4) (.tmp 10) rfl A rampZ.toArray rfl rfl 58 rampZ.toArray G3.out Try.size58 rfl (by simp [Value.oneCell']) ?_)
  have GF := setRow_heap w3 A _ rampZ.toArray 58 (0, 0) G3.out
  have FA : Hid (Below A w (w3.setRow A rampZ.toArray)) := Lib.hid (below_setRow (B1.out.trans (B3.out.mono (by rw [S1.out]; omega))) (Nat.le_refl A) _)
  obtain ⟨wf, hwf⟩ : ∃ wf, wf = w3.setRow A rampZ.toArray := ⟨_, rfl⟩
  rw [← hwf] at GF FA ⊢
  have RF := BxAt.of_heap GF
  clear hwf
  have q0 := RF.2.2 0 _ rfl
  have q1 := RF.2.2 1 _ rfl
  have q2 := RF.2.2 2 _ rfl
  have q3 := RF.2.2 3 _ rfl
  have q4 := RF.2.2 4 _ rfl
  have q5 := RF.2.2 5 _ rfl
  have q6 := RF.2.2 6 _ rfl
  have q7 := RF.2.2 7 _ rfl
  have q8 := RF.2.2 8 _ rfl
  have q9 := RF.2.2 9 _ rfl
  have q10 := RF.2.2 10 _ rfl
  have q11 := RF.2.2 11 _ rfl
  have q12 := RF.2.2 12 _ rfl
  have q13 := RF.2.2 13 _ rfl
  have q14 := RF.2.2 14 _ rfl
  refine bodyPost_ret (v := .tuple #[.agg rampZ.toArray, .bool false]) ?_ rfl ⟨rfl, by rw [← HW.out.2]; exact FA.out⟩
  simp [results, Try.results16, go_sem, q0, q1, q2, q3, q4, q5, q6, q7, q8, q9, q10, q11, q12, q13, q14]
end Go.Proofs.Ytkhdielfnphheaa
