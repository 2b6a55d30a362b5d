/- Contracts of Index.Picture and Index.Glyph. -/
import Derived.Test.YtkhdielfnphheaaAsk0
namespace Go.Proofs.Ytkhdielfnphheaa
open Go.RowKit

abbrev three : List Value := [.int .i64 0, .int .i64 0, .slice none 0 0]
def PicPost (S : Sc) (X : Nat) (x : Int) (w : World) (e : Ending) (w' : World) : Prop := FrmA w w' X ∧ IdxA S X w' ∧
  ((fstI (nmP S) x S.np = -1 ∧ e = .returned (.tuple #[.agg three.toArray, .bool false])) ∨ ∃ (p : Nat) (q : Option Addr) (c : Nat), p < S.np ∧ fstI (nmP S) x S.np = p ∧ e = .returned (.tuple #[.agg #[.int .i64 (S.P p).pw, .int .i64 (S.P p).ph, .slice q (S.P p).n c], .bool true]) ∧ Row w' (.slice q (S.P p).n c) (S.P p).n 4 (pxF (S.P p).px))
set_option maxRecDepth 100000 in
set_option maxHeartbeats 6400000 in
theorem pic_any (S : Sc) (X : Nat) (x : Int) (w : World) (h : IdxF S X w ∨ IdxA S X w) (ok : ScOk S) : Calls Try.prog 18 #[.pointer (some ⟨X, 0, none⟩), .int .i64 x] w (PicPost S X x w) := by
  obtain ⟨D, h⟩ : ∃ D, IdxFD S X D w ∨ IdxAD S X D w := by
    rcases h with ⟨D, h⟩ | ⟨D, h⟩
    · exact ⟨D, .inl h⟩
    · exact ⟨D, .inr h⟩
  have hX : X < w.heap.size := by rcases h with h | h <;> exact h.lt
  have hDl : ∀ g, D g → g < w.heap.size := by
    intro g hg
    rcases h with h | h
    · exact (h.1 g hg).2
    · exact (h.1 g hg).2
  obtain ⟨w1, hw1⟩ : ∃ w1, w1 = w.alloc (.cells three.toArray 38) := ⟨_, rfl⟩
  obtain ⟨A, hA⟩ : ∃ A, A = w.heap.size := ⟨_, rfl⟩
  have B1 : Hid (Below w.heap.size w w1) := Lib.hid (by rw [hw1]; exact below_alloc _ _)
  have G1 : Hid (BxAt w1 A three) := Lib.hid (by rw [hw1, hA]; exact BxAt.new w _ _)
  have S1 : Hid (w1.heap.size = A + 1) := Lib.hid (by rw [hw1, hA]; simp)
  have C := Lib.hid (ask_any S X D w1 (by
    rcases h with h | h
    · exact .inl (h.later B1.out)
    · exact .inr (h.later B1.out)) ok)
  have XA : Hid (X < A) := Lib.hid (by rw [hA]; exact hX)
  have DA : Hid (∀ g, D g → g < A) := Lib.hid (by rw [hA]; exact hDl)
  have HW := Lib.hid (And.intro hw1 hA)
  have OK := Lib.hid ok
  have nrb : S.np ≤ 3600000000000 := by have := ok.bp; omega
  clear h hX hDl hw1 hA ok
  go_enter Try.func18, Try.ntmps18
  go_wp2_with fail
  rw [← HW.out.2, ← HW.out.1]
  refine C.out.mono ?_
  rintro e w2 ⟨rfl, hf, D', hD', ha⟩
  have F2 := Lib.hid hf
  have I2 := Lib.hid ha
  have nA : Hid (¬ D' A) := Lib.hid (fun hh => by
    rcases hD' A hh with h1 | h1
    · have := DA.out A h1; omega
    · rw [S1.out] at h1; omega)
  have G2 : Hid (BxAt w2 A three) := Lib.hid (G1.out.frm hf (by have := XA.out; omega))
  obtain ⟨-, hd, rm, gl, pc, t1, b1, t2, b2, t3, b3, hX, -, hK, hT⟩ := ha
  have T1 := hT.now.2.1
  obtain ⟨pt, mt, ct, rfl⟩ := T1.slice
  have FI := Lib.hid (fun x => find_any (X + 1) _ b2 (nmP S) S.np x w2 T1 nrb)
  obtain ⟨sv, hrow, hst⟩ := hK.now.2.2
  obtain ⟨rp, rc, rfl⟩ : ∃ a c, pc = .slice a S.np c := hrow.slice
  have DR := Lib.hid hrow
  have DS := Lib.hid hst
  have x17 := hX.2.2 19 _ rfl
  have x18 := hX.2.2 (19 + 1) _ rfl
  have XX := Lib.hid hX
  clear hf hD' hK hT hX T1 hrow hst
  go_wp2_with fail
  have R := fstI_spec (nmP S) x S.np
  rcases R with ⟨h1, -⟩ | ⟨p, h1, h2, -⟩
  · have C2 := FI.out x
    rw [h1] at C2
    have H1 := Lib.hid h1
    clear h1
    refine C2.mono ?_
    rintro e w3 ⟨rfl, hb3⟩
    have B3 := Lib.hid hb3
    have G3 := Lib.hid (G2.out.later hb3)
    have a0 := G3.out.2.2 0 _ rfl
    have a1 := G3.out.2.2 1 _ rfl
    have a2 := G3.out.2.2 2 _ rfl
    have af := G3.out.2.1
    have az := G3.out.1
    clear hb3 C2 x17 x18
    go_wp2_with fail
    have FA : Hid (FrmA w2 (((w3.setCell ⟨A, 0, none⟩ (.int .i64 0)).setCell ⟨A, 1, none⟩ (.int .i64 0)).setCell ⟨A, 2, none⟩ (.slice none 0 0)) A) := Lib.hid (FrmA.of_below B3.out).set.set.set
    have RF := bx3 G3.out (.int .i64 0) (.int .i64 0) (.slice none 0 0)
    obtain ⟨wf, hwf⟩ : ∃ wf, wf = (((w3.setCell ⟨A, 0, none⟩ (.int .i64 0)).setCell ⟨A, 1, none⟩ (.int .i64 0)).setCell ⟨A, 2, none⟩ (.slice none 0 0)) := ⟨_, rfl⟩
    rw [← hwf] at RF FA ⊢
    clear hwf a0 a1 a2 af az
    have q0 := RF.2.2 0 _ rfl
    have q1 := RF.2.2 1 _ rfl
    have q2 := RF.2.2 2 _ rfl
    refine bodyPost_ret (v := .tuple #[.agg three.toArray, .bool false]) ?_ rfl ⟨?_, ?_, .inl ⟨H1.out, rfl⟩⟩
    · simp [results, Try.results18, go_sem, q0, q1, q2]
    · exact ((FrmA.of_below B1.out).trans F2.out).next FA.out (by rw [← HW.out.2]; omega)
    · exact ⟨D', I2.out.frm FA.out nA.out (by have := XA.out; omega)⟩
  · have C2 := FI.out x
    rw [h1] at C2
    have H1 := Lib.hid h1
    clear h1
    refine C2.mono ?_
    rintro e w3 ⟨rfl, hb3⟩
    have B3 := Lib.hid hb3
    have G3 := Lib.hid (G2.out.later hb3)
    have x9 := (XX.out.later hb3).2.2 11 _ rfl
    obtain ⟨a, cap, he, hnn, hcell⟩ := DR.out.later hb3
    obtain ⟨g, off, rfl, hc3⟩ := hcell (by omega)
    obtain ⟨rfl, rfl⟩ : rp = some ⟨g, off, none⟩ ∧ rc = cap := by simpa using he
    have ST := Lib.hid ((DS.out p h2).later hb3)
    obtain ⟨sp, sc, hs⟩ := ST.out.slice
    rw [hs] at ST
    have c0 : w3.cell? ⟨g, off + p * 4 + 1, none⟩ = some (.int .i64 (S.P p).pw) := hc3 p 1 h2 (by omega)
    have c1 : w3.cell? ⟨g, off + p * 4 + 1 + 1, none⟩ = some (.int .i64 (S.P p).ph) := by rw [show off + p * 4 + 1 + 1 = off + p * 4 + 2 by omega]; exact hc3 p 2 h2 (by omega)
    have c2 : w3.cell? ⟨g, off + p * 4 + 1 + 2, none⟩ = some (.slice sp (S.P p).n sc) := by rw [← hs, show off + p * 4 + 1 + 2 = off + p * 4 + 3 by omega]; exact hc3 p 3 h2 (by omega)
    have pI : (p : Int) < (S.np : Int) := by omega
    have p0 : (0 : Int) ≤ (p : Int) := by omega
    have p1 : ¬ (p : Int) < 0 := by omega
    clear hb3 C2 x17 x18 hc3 hcell hnn he hs
    go_wp2_with fail
    obtain ⟨wa, hwa⟩ : ∃ wa, wa = w3.alloc (.cells #[.int .i64 (S.P p).pw, .int .i64 (S.P p).ph, .slice sp (S.P p).n sc] 38) := ⟨_, rfl⟩
    obtain ⟨L, hL⟩ : ∃ L, L = w3.heap.size := ⟨_, rfl⟩
    have Ba : Hid (Below L w3 wa) := Lib.hid (by rw [hwa, hL]; exact below_alloc _ _)
    have La : Hid (BxAt wa L [.int .i64 (S.P p).pw, .int .i64 (S.P p).ph, .slice sp (S.P p).n sc]) := Lib.hid (by rw [hwa, hL]; exact BxAt.new w3 _ _)
    have Sa : Hid (wa.heap.size = L + 1) := Lib.hid (by rw [hwa, hL]; simp)
    have LA : Hid (A < L) := Lib.hid (by rw [hL]; exact G3.out.1)
    have L2 : Hid (w2.heap.size ≤ L) := Lib.hid (by rw [hL]; exact B3.out.size)
    have Ga : Hid (BxAt wa A three) := Lib.hid (G3.out.later (by rw [← hL]; exact Ba.out))
    have STa := Lib.hid (ST.out.later (by rw [← hL]; exact Ba.out))
    have HL := Lib.hid hL
    rw [← hwa, ← hL]
    clear hwa hL c0 c1 c2 x9
    refine (clone26_any (.slice sp (S.P p).n sc) (S.P p).n (pxF (S.P p).px) wa STa.out (fun _ _ _ _ => rfl) (OK.out.cp p h2)).mono ?_
    rintro e w5 ⟨cv, rfl, hb5, ho5⟩
    obtain ⟨cq, cc, rfl⟩ := own_slice ho5
    have B5 := Lib.hid hb5
    have O5 := Lib.hid ho5
    have L5 := Lib.hid (La.out.later hb5)
    have G5 := Lib.hid (Ga.out.later hb5)
    have l0 := L5.out.2.2 0 _ rfl
    have l1 := L5.out.2.2 1 _ rfl
    have l2 := L5.out.2.2 2 _ rfl
    have lf := L5.out.2.1
    have lz := L5.out.1
    clear hb5 ho5
    go_upto_region 8 with (fail)
    obtain ⟨w6, hw6⟩ : ∃ w6, w6 = w5.setCell ⟨L, 2, none⟩ (.slice cq (S.P p).n cc) := ⟨_, rfl⟩
    have B6 : Hid (Below w2.heap.size w2 w6) := Lib.hid (by
      rw [hw6]
      have h35 : Below w3.heap.size w3 w5 := bthen (by rw [← HL.out]; exact Ba.out) B5.out
      exact (bthen B3.out h35).setCell (p := ⟨L, 2, none⟩) L2.out _)
    have L6 : Hid (BxAt w6 L [.int .i64 (S.P p).pw, .int .i64 (S.P p).ph, .slice cq (S.P p).n cc]) := Lib.hid (by rw [hw6]; exact L5.out.put 2 _ (by simp))
    have G6 : Hid (BxAt w6 A three) := Lib.hid (by rw [hw6]; exact G5.out.far _ (by have := LA.out; omega))
    have AB6 : Hid (Abv wa.heap.size w5 w6) := Lib.hid (by rw [hw6]; exact Abv.set _ _ _ (by rw [Sa.out]; show L < L + 1; omega))
    rw [← hw6]
    clear hw6 l0 l1 l2 lf lz
    have l0 := L6.out.2.2 0 _ rfl
    have l1 := L6.out.2.2 1 _ rfl
    have l2 := L6.out.2.2 2 _ rfl
    have a0 := G6.out.2.2 0 _ rfl
    have a1 := G6.out.2.2 1 _ rfl
    have a2 := G6.out.2.2 2 _ rfl
    have af := G6.out.2.1
    have az := G6.out.1
    go_wp2_with fail
    have FA : Hid (FrmA w2 (((w6.setCell ⟨A, 0, none⟩ (.int .i64 (S.P p).pw)).setCell ⟨A, 1, none⟩ (.int .i64 (S.P p).ph)).setCell ⟨A, 2, none⟩ (.slice cq (S.P p).n cc)) A) := Lib.hid (FrmA.of_below B6.out).set.set.set
    have RF := bx3 G6.out (.int .i64 (S.P p).pw) (.int .i64 (S.P p).ph) (.slice cq (S.P p).n cc)
    have RW : Hid (Row (((w6.setCell ⟨A, 0, none⟩ (.int .i64 (S.P p).pw)).setCell ⟨A, 1, none⟩ (.int .i64 (S.P p).ph)).setCell ⟨A, 2, none⟩ (.slice cq (S.P p).n cc)) (.slice cq (S.P p).n cc) (S.P p).n 4 (pxF (S.P p).px)) := Lib.hid (Row.kept O5.out _ (((AB6.out.trans (Abv.set _ _ _ (by rw [Sa.out]; show A < L + 1; have := LA.out; omega))).trans (Abv.set _ _ _ (by rw [Sa.out]; show A < L + 1; have := LA.out; omega))).trans (Abv.set _ _ _ (by rw [Sa.out]; show A < L + 1; have := LA.out; omega))))
    obtain ⟨wf, hwf⟩ : ∃ wf, wf = (((w6.setCell ⟨A, 0, none⟩ (.int .i64 (S.P p).pw)).setCell ⟨A, 1, none⟩ (.int .i64 (S.P p).ph)).setCell ⟨A, 2, none⟩ (.slice cq (S.P p).n cc)) := ⟨_, rfl⟩
    rw [← hwf] at RF FA RW ⊢
    clear hwf l0 l1 l2 a0 a1 a2 af az
    have q0 := RF.2.2 0 _ rfl
    have q1 := RF.2.2 1 _ rfl
    have q2 := RF.2.2 2 _ rfl
    refine bodyPost_ret (v := .tuple #[.agg #[.int .i64 (S.P p).pw, .int .i64 (S.P p).ph, .slice cq (S.P p).n cc], .bool true]) ?_ rfl ⟨?_, ?_, .inr ⟨p, cq, cc, h2, H1.out, rfl, RW.out⟩⟩
    · simp [results, Try.results18, go_sem, q0, q1, q2]
    · exact ((FrmA.of_below B1.out).trans F2.out).next FA.out (by rw [← HW.out.2]; omega)
    · exact ⟨D', I2.out.frm FA.out nA.out (by have := XA.out; omega)⟩
set_option maxRecDepth 100000 in
set_option maxHeartbeats 3200000 in
theorem pic_none (x : Int) (w : World) : Calls Try.prog 18 #[.pointer none, .int .i64 x] w (RetPost (.tuple #[.agg three.toArray, .bool false]) w) := by
  obtain ⟨w1, hw1⟩ : ∃ w1, w1 = w.alloc (.cells three.toArray 38) := ⟨_, rfl⟩
  obtain ⟨A, hA⟩ : ∃ A, A = w.heap.size := ⟨_, rfl⟩
  have B1 : Hid (Below A w w1) := Lib.hid (by rw [hw1, hA]; exact below_alloc _ _)
  have G1 : Hid (BxAt w1 A three) := Lib.hid (by rw [hw1, hA]; exact BxAt.new w _ _)
  have S1 : Hid (w1.heap.size = A + 1) := Lib.hid (by rw [hw1, hA]; simp)
  have C := Lib.hid (ask_none w1)
  have HW := Lib.hid (And.intro hw1 hA)
  clear hw1 hA
  go_enter Try.func18, Try.ntmps18
  go_wp2_with fail
  rw [← HW.out.2, ← HW.out.1]
  refine C.out.mono ?_
  rintro e w3 ⟨rfl, hb3⟩
  have B3 := Lib.hid hb3
  have G3 := Lib.hid (G1.out.later hb3)
  have a0 := G3.out.2.2 0 _ rfl
  have a1 := G3.out.2.2 1 _ rfl
  have a2 := G3.out.2.2 2 _ rfl
  have af := G3.out.2.1
  have az := G3.out.1
  clear hb3 C
  go_wp2_with fail
  have FA : Hid (Below A w (((w3.setCell ⟨A, 0, none⟩ (.int .i64 0)).setCell ⟨A, 1, none⟩ (.int .i64 0)).setCell ⟨A, 2, none⟩ (.slice none 0 0))) := Lib.hid (below3 (B1.out.trans (B3.out.mono (by rw [S1.out]; omega))) (Nat.le_refl A) _ _ _)
  have RF := bx3 G3.out (.int .i64 0) (.int .i64 0) (.slice none 0 0)
  obtain ⟨wf, hwf⟩ : ∃ wf, wf = (((w3.setCell ⟨A, 0, none⟩ (.int .i64 0)).setCell ⟨A, 1, none⟩ (.int .i64 0)).setCell ⟨A, 2, none⟩ (.slice none 0 0)) := ⟨_, rfl⟩
  rw [← hwf] at RF FA ⊢
  clear hwf a0 a1 a2 af az
  have q0 := RF.2.2 0 _ rfl
  have q1 := RF.2.2 1 _ rfl
  have q2 := RF.2.2 2 _ rfl
  refine bodyPost_ret (v := .tuple #[.agg three.toArray, .bool false]) ?_ rfl ⟨rfl, by rw [← HW.out.2]; exact FA.out⟩
  simp [results, Try.results18, go_sem, q0, q1, q2]
def GlyPost (S : Sc) (X : Nat) (x : Int) (w : World) (e : Ending) (w' : World) : Prop := FrmA w w' X ∧ IdxA S X w' ∧
  ((fstI (nmG S) x S.ng = -1 ∧ e = .returned (.tuple #[.agg three.toArray, .bool false])) ∨ ∃ (p : Nat) (q : Option Addr) (c : Nat), p < S.ng ∧ fstI (nmG S) x S.ng = p ∧ e = .returned (.tuple #[.agg #[.int .i64 (S.G p).code, .int .i64 (S.G p).adv, .slice q (S.G p).n c], .bool true]) ∧ Row w' (.slice q (S.G p).n c) (S.G p).n 7 (stF (S.G p).F))
set_option maxRecDepth 100000 in
set_option maxHeartbeats 6400000 in
theorem gly_any (S : Sc) (X : Nat) (x : Int) (w : World) (h : IdxF S X w ∨ IdxA S X w) (ok : ScOk S) : Calls Try.prog 20 #[.pointer (some ⟨X, 0, none⟩), .int .i64 x] w (GlyPost S X x w) := by
  obtain ⟨D, h⟩ : ∃ D, IdxFD S X D w ∨ IdxAD S X D w := by
    rcases h with ⟨D, h⟩ | ⟨D, h⟩
    · exact ⟨D, .inl h⟩
    · exact ⟨D, .inr h⟩
  have hX : X < w.heap.size := by rcases h with h | h <;> exact h.lt
  have hDl : ∀ g, D g → g < w.heap.size := by
    intro g hg
    rcases h with h | h
    · exact (h.1 g hg).2
    · exact (h.1 g hg).2
  obtain ⟨w1, hw1⟩ : ∃ w1, w1 = w.alloc (.cells three.toArray 66) := ⟨_, rfl⟩
  obtain ⟨A, hA⟩ : ∃ A, A = w.heap.size := ⟨_, rfl⟩
  have B1 : Hid (Below w.heap.size w w1) := Lib.hid (by rw [hw1]; exact below_alloc _ _)
  have G1 : Hid (BxAt w1 A three) := Lib.hid (by rw [hw1, hA]; exact BxAt.new w _ _)
  have S1 : Hid (w1.heap.size = A + 1) := Lib.hid (by rw [hw1, hA]; simp)
  have C := Lib.hid (ask_any S X D w1 (by
    rcases h with h | h
    · exact .inl (h.later B1.out)
    · exact .inr (h.later B1.out)) ok)
  have XA : Hid (X < A) := Lib.hid (by rw [hA]; exact hX)
  have DA : Hid (∀ g, D g → g < A) := Lib.hid (by rw [hA]; exact hDl)
  have HW := Lib.hid (And.intro hw1 hA)
  have OK := Lib.hid ok
  have nrb : S.ng ≤ 3600000000000 := by have := ok.bg; omega
  clear h hX hDl hw1 hA ok
  go_enter Try.func20, Try.ntmps20
  go_wp2_with fail
  rw [← HW.out.2, ← HW.out.1]
  refine C.out.mono ?_
  rintro e w2 ⟨rfl, hf, D', hD', ha⟩
  have F2 := Lib.hid hf
  have I2 := Lib.hid ha
  have nA : Hid (¬ D' A) := Lib.hid (fun hh => by
    rcases hD' A hh with h1 | h1
    · have := DA.out A h1; omega
    · rw [S1.out] at h1; omega)
  have G2 : Hid (BxAt w2 A three) := Lib.hid (G1.out.frm hf (by have := XA.out; omega))
  obtain ⟨-, hd, rm, gl, pc, t1, b1, t2, b2, t3, b3, hX, -, hK, hT⟩ := ha
  have T1 := hT.now.2.2
  obtain ⟨pt, mt, ct, rfl⟩ := T1.slice
  have FI := Lib.hid (fun x => find_any (X + 1) _ b3 (nmG S) S.ng x w2 T1 nrb)
  obtain ⟨sv, hrow, hst⟩ := hK.now.2.1
  obtain ⟨rp, rc, rfl⟩ : ∃ a c, gl = .slice a S.ng c := hrow.slice
  have DR := Lib.hid hrow
  have DS := Lib.hid hst
  have x17 := hX.2.2 21 _ rfl
  have x18 := hX.2.2 (21 + 1) _ rfl
  have XX := Lib.hid hX
  clear hf hD' hK hT hX T1 hrow hst
  go_wp2_with fail
  have R := fstI_spec (nmG S) x S.ng
  rcases R with ⟨h1, -⟩ | ⟨p, h1, h2, -⟩
  · have C2 := FI.out x
    rw [h1] at C2
    have H1 := Lib.hid h1
    clear h1
    refine C2.mono ?_
    rintro e w3 ⟨rfl, hb3⟩
    have B3 := Lib.hid hb3
    have G3 := Lib.hid (G2.out.later hb3)
    have a0 := G3.out.2.2 0 _ rfl
    have a1 := G3.out.2.2 1 _ rfl
    have a2 := G3.out.2.2 2 _ rfl
    have af := G3.out.2.1
    have az := G3.out.1
    clear hb3 C2 x17 x18
    go_wp2_with fail
    have FA : Hid (FrmA w2 (((w3.setCell ⟨A, 0, none⟩ (.int .i64 0)).setCell ⟨A, 1, none⟩ (.int .i64 0)).setCell ⟨A, 2, none⟩ (.slice none 0 0)) A) := Lib.hid (FrmA.of_below B3.out).set.set.set
    have RF := bx3 G3.out (.int .i64 0) (.int .i64 0) (.slice none 0 0)
    obtain ⟨wf, hwf⟩ : ∃ wf, wf = (((w3.setCell ⟨A, 0, none⟩ (.int .i64 0)).setCell ⟨A, 1, none⟩ (.int .i64 0)).setCell ⟨A, 2, none⟩ (.slice none 0 0)) := ⟨_, rfl⟩
    rw [← hwf] at RF FA ⊢
    clear hwf a0 a1 a2 af az
    have q0 := RF.2.2 0 _ rfl
    have q1 := RF.2.2 1 _ rfl
    have q2 := RF.2.2 2 _ rfl
    refine bodyPost_ret (v := .tuple #[.agg three.toArray, .bool false]) ?_ rfl ⟨?_, ?_, .inl ⟨H1.out, rfl⟩⟩
    · simp [results, Try.results20, go_sem, q0, q1, q2]
    · exact ((FrmA.of_below B1.out).trans F2.out).next FA.out (by rw [← HW.out.2]; omega)
    · exact ⟨D', I2.out.frm FA.out nA.out (by have := XA.out; omega)⟩
  · have C2 := FI.out x
    rw [h1] at C2
    have H1 := Lib.hid h1
    clear h1
    refine C2.mono ?_
    rintro e w3 ⟨rfl, hb3⟩
    have B3 := Lib.hid hb3
    have G3 := Lib.hid (G2.out.later hb3)
    have x9 := (XX.out.later hb3).2.2 10 _ rfl
    obtain ⟨a, cap, he, hnn, hcell⟩ := DR.out.later hb3
    obtain ⟨g, off, rfl, hc3⟩ := hcell (by omega)
    obtain ⟨rfl, rfl⟩ : rp = some ⟨g, off, none⟩ ∧ rc = cap := by simpa using he
    have ST := Lib.hid ((DS.out p h2).later hb3)
    obtain ⟨sp, sc, hs⟩ := ST.out.slice
    rw [hs] at ST
    have c0 : w3.cell? ⟨g, off + p * 3, none⟩ = some (.int .i64 (S.G p).code) := hc3 p 0 h2 (by omega)
    have c1 : w3.cell? ⟨g, off + p * 3 + 1, none⟩ = some (.int .i64 (S.G p).adv) := hc3 p 1 h2 (by omega)
    have c2 : w3.cell? ⟨g, off + p * 3 + 2, none⟩ = some (.slice sp (S.G p).n sc) := by rw [← hs]; exact hc3 p 2 h2 (by omega)
    have pI : (p : Int) < (S.ng : Int) := by omega
    have p0 : (0 : Int) ≤ (p : Int) := by omega
    have p1 : ¬ (p : Int) < 0 := by omega
    clear hb3 C2 x17 x18 hc3 hcell hnn he hs
    go_wp2_with fail
    obtain ⟨wa, hwa⟩ : ∃ wa, wa = w3.alloc (.cells #[.int .i64 (S.G p).code, .int .i64 (S.G p).adv, .slice sp (S.G p).n sc] 66) := ⟨_, rfl⟩
    obtain ⟨L, hL⟩ : ∃ L, L = w3.heap.size := ⟨_, rfl⟩
    have Ba : Hid (Below L w3 wa) := Lib.hid (by rw [hwa, hL]; exact below_alloc _ _)
    have La : Hid (BxAt wa L [.int .i64 (S.G p).code, .int .i64 (S.G p).adv, .slice sp (S.G p).n sc]) := Lib.hid (by rw [hwa, hL]; exact BxAt.new w3 _ _)
    have Sa : Hid (wa.heap.size = L + 1) := Lib.hid (by rw [hwa, hL]; simp)
    have LA : Hid (A < L) := Lib.hid (by rw [hL]; exact G3.out.1)
    have L2 : Hid (w2.heap.size ≤ L) := Lib.hid (by rw [hL]; exact B3.out.size)
    have Ga : Hid (BxAt wa A three) := Lib.hid (G3.out.later (by rw [← hL]; exact Ba.out))
    have STa := Lib.hid (ST.out.later (by rw [← hL]; exact Ba.out))
    have HL := Lib.hid hL
    rw [← hwa, ← hL]
    clear hwa hL c0 c1 c2 x9
    refine (clone25_any (.slice sp (S.G p).n sc) (S.G p).n (stF (S.G p).F) wa STa.out (fun _ _ _ _ => rfl) (OK.out.cg p h2)).mono ?_
    rintro e w5 ⟨cv, rfl, hb5, ho5⟩
    obtain ⟨cq, cc, rfl⟩ := own_slice ho5
    have B5 := Lib.hid hb5
    have O5 := Lib.hid ho5
    have L5 := Lib.hid (La.out.later hb5)
    have G5 := Lib.hid (Ga.out.later hb5)
    have l0 := L5.out.2.2 0 _ rfl
    have l1 := L5.out.2.2 1 _ rfl
    have l2 := L5.out.2.2 2 _ rfl
    have lf := L5.out.2.1
    have lz := L5.out.1
    clear hb5 ho5
    go_upto_region 8 with (fail)
    obtain ⟨w6, hw6⟩ : ∃ w6, w6 = w5.setCell ⟨L, 2, none⟩ (.slice cq (S.G p).n cc) := ⟨_, rfl⟩
    have B6 : Hid (Below w2.heap.size w2 w6) := Lib.hid (by
      rw [hw6]
      have h35 : Below w3.heap.size w3 w5 := bthen (by rw [← HL.out]; exact Ba.out) B5.out
      exact (bthen B3.out h35).setCell (p := ⟨L, 2, none⟩) L2.out _)
    have L6 : Hid (BxAt w6 L [.int .i64 (S.G p).code, .int .i64 (S.G p).adv, .slice cq (S.G p).n cc]) := Lib.hid (by rw [hw6]; exact L5.out.put 2 _ (by simp))
    have G6 : Hid (BxAt w6 A three) := Lib.hid (by rw [hw6]; exact G5.out.far _ (by have := LA.out; omega))
    have AB6 : Hid (Abv wa.heap.size w5 w6) := Lib.hid (by rw [hw6]; exact Abv.set _ _ _ (by rw [Sa.out]; show L < L + 1; omega))
    rw [← hw6]
    clear hw6 l0 l1 l2 lf lz
    have l0 := L6.out.2.2 0 _ rfl
    have l1 := L6.out.2.2 1 _ rfl
    have l2 := L6.out.2.2 2 _ rfl
    have a0 := G6.out.2.2 0 _ rfl
    have a1 := G6.out.2.2 1 _ rfl
    have a2 := G6.out.2.2 2 _ rfl
    have af := G6.out.2.1
    have az := G6.out.1
    go_wp2_with fail
    have FA : Hid (FrmA w2 (((w6.setCell ⟨A, 0, none⟩ (.int .i64 (S.G p).code)).setCell ⟨A, 1, none⟩ (.int .i64 (S.G p).adv)).setCell ⟨A, 2, none⟩ (.slice cq (S.G p).n cc)) A) := Lib.hid (FrmA.of_below B6.out).set.set.set
    have RF := bx3 G6.out (.int .i64 (S.G p).code) (.int .i64 (S.G p).adv) (.slice cq (S.G p).n cc)
    have RW : Hid (Row (((w6.setCell ⟨A, 0, none⟩ (.int .i64 (S.G p).code)).setCell ⟨A, 1, none⟩ (.int .i64 (S.G p).adv)).setCell ⟨A, 2, none⟩ (.slice cq (S.G p).n cc)) (.slice cq (S.G p).n cc) (S.G p).n 7 (stF (S.G p).F)) := Lib.hid (Row.kept O5.out _ (((AB6.out.trans (Abv.set _ _ _ (by rw [Sa.out]; show A < L + 1; have := LA.out; omega))).trans (Abv.set _ _ _ (by rw [Sa.out]; show A < L + 1; have := LA.out; omega))).trans (Abv.set _ _ _ (by rw [Sa.out]; show A < L + 1; have := LA.out; omega))))
    obtain ⟨wf, hwf⟩ : ∃ wf, wf = (((w6.setCell ⟨A, 0, none⟩ (.int .i64 (S.G p).code)).setCell ⟨A, 1, none⟩ (.int .i64 (S.G p).adv)).setCell ⟨A, 2, none⟩ (.slice cq (S.G p).n cc)) := ⟨_, rfl⟩
    rw [← hwf] at RF FA RW ⊢
    clear hwf l0 l1 l2 a0 a1 a2 af az
    have q0 := RF.2.2 0 _ rfl
    have q1 := RF.2.2 1 _ rfl
    have q2 := RF.2.2 2 _ rfl
    refine bodyPost_ret (v := .tuple #[.agg #[.int .i64 (S.G p).code, .int .i64 (S.G p).adv, .slice cq (S.G p).n cc], .bool true]) ?_ rfl ⟨?_, ?_, .inr ⟨p, cq, cc, h2, H1.out, rfl, RW.out⟩⟩
    · simp [results, Try.results20, go_sem, q0, q1, q2]
    · exact ((FrmA.of_below B1.out).trans F2.out).next FA.out (by rw [← HW.out.2]; omega)
    · exact ⟨D', I2.out.frm FA.out nA.out (by have := XA.out; omega)⟩
set_option maxRecDepth 100000 in
set_option maxHeartbeats 3200000 in
theorem gly_none (x : Int) (w : World) : Calls Try.prog 20 #[.pointer none, .int .i64 x] w (RetPost (.tuple #[.agg three.toArray, .bool false]) w) := by
  obtain ⟨w1, hw1⟩ : ∃ w1, w1 = w.alloc (.cells three.toArray 66) := ⟨_, rfl⟩
  obtain ⟨A, hA⟩ : ∃ A, A = w.heap.size := ⟨_, rfl⟩
  have B1 : Hid (Below A w w1) := Lib.hid (by rw [hw1, hA]; exact below_alloc _ _)
  have G1 : Hid (BxAt w1 A three) := Lib.hid (by rw [hw1, hA]; exact BxAt.new w _ _)
  have S1 : Hid (w1.heap.size = A + 1) := Lib.hid (by rw [hw1, hA]; simp)
  have C := Lib.hid (ask_none w1)
  have HW := Lib.hid (And.intro hw1 hA)
  clear hw1 hA
  go_enter Try.func20, Try.ntmps20
  go_wp2_with fail
  rw [← HW.out.2, ← HW.out.1]
  refine C.out.mono ?_
  rintro e w3 ⟨rfl, hb3⟩
  have B3 := Lib.hid hb3
  have G3 := Lib.hid (G1.out.later hb3)
  have a0 := G3.out.2.2 0 _ rfl
  have a1 := G3.out.2.2 1 _ rfl
  have a2 := G3.out.2.2 2 _ rfl
  have af := G3.out.2.1
  have az := G3.out.1
  clear hb3 C
  go_wp2_with fail
  have FA : Hid (Below A w (((w3.setCell ⟨A, 0, none⟩ (.int .i64 0)).setCell ⟨A, 1, none⟩ (.int .i64 0)).setCell ⟨A, 2, none⟩ (.slice none 0 0))) := Lib.hid (below3 (B1.out.trans (B3.out.mono (by rw [S1.out]; omega))) (Nat.le_refl A) _ _ _)
  have RF := bx3 G3.out (.int .i64 0) (.int .i64 0) (.slice none 0 0)
  obtain ⟨wf, hwf⟩ : ∃ wf, wf = (((w3.setCell ⟨A, 0, none⟩ (.int .i64 0)).setCell ⟨A, 1, none⟩ (.int .i64 0)).setCell ⟨A, 2, none⟩ (.slice none 0 0)) := ⟨_, rfl⟩
  rw [← hwf] at RF FA ⊢
  clear hwf a0 a1 a2 af az
  have q0 := RF.2.2 0 _ rfl
  have q1 := RF.2.2 1 _ rfl
  have q2 := RF.2.2 2 _ rfl
  refine bodyPost_ret (v := .tuple #[.agg three.toArray, .bool false]) ?_ rfl ⟨rfl, by rw [← HW.out.2]; exact FA.out⟩
  simp [results, Try.results20, go_sem, q0, q1, q2]
end Go.Proofs.Ytkhdielfnphheaa
