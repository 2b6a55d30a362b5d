/- Contracts of glyph.Width where all goes well, and of the reference's SameSteps. -/
import Derived.Test.YthglgempbdaikaaGj7
import Derived.Test.YthglgempbdaikaaPd7
namespace Go.Proofs.Ythglgempbdaikaa
open Go.RowKit

def penK (fn : Nat) (G : Nat → Gl) (B : Nat → Int) : Nat → Int
  | 0 => 0
  | k + 1 => penK fn G B k + (getG fn G (B k)).adv
set_option maxRecDepth 100000 in
set_option maxHeartbeats 6400000 in
theorem width_ok (v : Value) (fn : Nat) (G : Nat → Gl) (s : ByteArray) (size : Int) (w : World) (h : FontV w v fn G) (hs : s.size ≤ 281474976710656) (hz : 1 ≤ size ∧ size ≤ 65536)
    (hg : ∀ k, k < s.size → getE fn G (byt s k) = 0) (hp : ∀ k, k ≤ s.size → 0 ≤ penK fn G (byt s) k ∧ penK fn G (byt s) k ≤ 8388607) :
    Calls Try.prog 33 #[v, .string s, .int .i64 size] w (RetPost (.tuple #[.int .i64 (sclI (penK fn G (byt s) s.size) size), .int .i64 0]) w) := by
  have HF := Lib.hid h
  have HG := Lib.hid hg
  have HP := Lib.hid hp
  have ES := Lib.hid (sized_any size w)
  rw [decide_eq_true hz] at ES
  obtain ⟨a, cap, rfl, hn, _⟩ := h
  have SC := Lib.hid (fun W => scaled_any (penK fn G (byt s) s.size) size W (by have := hp s.size (Nat.le_refl _); omega) (by omega))
  obtain ⟨res, hres⟩ : ∃ r, r = sclI (penK fn G (byt s) s.size) size := ⟨_, rfl⟩
  rw [← hres] at SC ⊢
  obtain ⟨n, hns⟩ : ∃ n, n = s.size := ⟨_, rfl⟩
  have NS := Lib.hid hns
  rw [← hns] at SC hs HG HP
  clear hns hg hp hres
  go_enter Try.func33, Try.ntmps33
  go_wp2_with fail
  refine ES.out.mono ?_
  rintro en w2 ⟨rfl, rfl⟩
  go_wp2_with fail
  rw [← NS.out]
  go_loopw [8, 17] (fun q i wr => ∃ k : Nat, k ≤ n ∧ i = .int .i64 k ∧ q = .int .i64 (penK fn G (byt s) k) ∧ Below w.heap.size w wr) (fun _ i _ => n - (intOf i).toNat)
  case atStart => exact ⟨0, by omega, rfl, rfl, Below.refl _ _⟩
  case round =>
    obtain ⟨k, hk, rfl, rfl, hb⟩ := hrel
    have B := Lib.hid hb
    clear hb
    by_cases hlt : k < n
    · obtain ⟨hb1, hb2⟩ := byt_rng s k
      have GA := Lib.hid (get_any (.slice a fn cap) fn G (byt s k) w wr ⟨hb1, hb2⟩ HF.out B.out)
      have GE := Lib.hid (HG.out k hlt)
      obtain ⟨p1, p2⟩ := HP.out k hk
      obtain ⟨p3, p4⟩ := HP.out (k + 1) (by omega)
      have PS : Hid (penK fn G (byt s) (k + 1) = penK fn G (byt s) k + (getG fn G (byt s k)).adv) := Lib.hid rfl
      have hk0 : (0 : Int) ≤ (k : Int) := by omega
      have hk3 : (k : Int) < (n : Int) := by omega
      have hkd : k < s.data.size := by have := NS.out; show k < s.size; omega
      have hks : k < s.size := hkd
      go_wp2_with fail
      simp only [byt_at]
      refine GA.out.mono ?_
      rintro en w5 ⟨hb5, p, c, rfl, _⟩
      rw [GE.out]
      obtain ⟨gl, hgl⟩ : ∃ gl, gl = getG fn G (byt s k) := ⟨_, rfl⟩
      rw [← hgl] at PS ⊢
      obtain ⟨code, hcode⟩ : ∃ z, z = gl.code := ⟨_, rfl⟩
      obtain ⟨adv, hadv⟩ : ∃ z, z = gl.adv := ⟨_, rfl⟩
      obtain ⟨gn, hgn⟩ : ∃ z, z = gl.n := ⟨_, rfl⟩
      rw [← hcode, ← hadv, ← hgn]
      rw [← hadv] at PS
      obtain ⟨z, hz9⟩ : ∃ z, z = penK fn G (byt s) k := ⟨_, rfl⟩
      obtain ⟨z1, hz1⟩ : ∃ z, z = penK fn G (byt s) (k + 1) := ⟨_, rfl⟩
      rw [← hz9] at p1 p2 PS ⊢
      rw [← hz1] at p3 p4 PS
      have ZZ := Lib.hid hz1
      have rr : IntKind.i64.wrap (z + adv) = z1 := by rw [PS.out]; exact IntWalk.i64_in _ (by have := PS.out; omega)
      have hd : decide (8388607 < z1) = false := decide_eq_false (by omega)
      have hd2 : ¬ 8388607 < z1 := by omega
      have hsum : z + adv = z1 := PS.out.symm
      have B6 := Lib.hid (bthen (bthen B.out hb5) (below_alloc w5 (.cells #[.int .i64 code, .int .i64 adv, .slice p gn c] 78)))
      clear hgl hcode hadv hgn hz9 hz1 hb5 PS
      go_wp2_with fail
      refine ⟨⟨k + 1, by omega, by go_num, ?_, B6.out⟩, by (first | (simp [intOf]; done) | (simp [intOf]; omega) | (simp only [intOf]; omega))⟩
      rw [← ZZ.out, ← hsum]
    · obtain rfl : k = n := by omega
      go_wp2_with fail
      refine (SC.out wr).mono ?_
      rintro en w6 ⟨rfl, rfl⟩
      go_wp2_with fail
      refine bodyPost_ret (v := .tuple #[.int .i64 res, .int .i64 0]) ?_ rfl ⟨rfl, B.out⟩
      simp [results, Try.results33, go_sem]
theorem eq_pt (d : Nat) (a b : Int) (W : World) : (Op.equalIn (d + 1 + 1) 42 (.agg #[.int .i64 a, .int .i64 b]) (.agg #[.int .i64 a, .int .i64 b])).run Try.prog W = .ok true W := by
  go_simp
theorem eq_arr (d : Nat) (a b c e f g : Int) (W : World) : (Op.equalIn (d + 1 + 1 + 1) 57 (.agg #[.int .i64 a, .int .i64 b, .int .i64 c, .int .i64 e, .int .i64 f, .int .i64 g]) (.agg #[.int .i64 a, .int .i64 b, .int .i64 c, .int .i64 e, .int .i64 f, .int .i64 g])).run Try.prog W = .ok true W := by
  obtain ⟨i0, hi, hz0, hz1, hz2⟩ := info_parts Try.info42
  have h3 : List.range' 0 3 = [0, 1, 2] := rfl
  have hag : ∀ W, (isAgg 42).run Try.prog W = .ok true W := fun W => by simp [isAgg, run_underlying Try.underlying42]
  have hso : ∀ W, (sizeOf 42).run Try.prog W = .ok 2 W := fun W => by simp [sizeOf, typeInfo, hi, hz1]
  rw [Op.equalIn]
  simp [run_underlying Try.underlying57, go_sem, h3, hag, hso, eq_pt]
set_option maxRecDepth 100000 in
set_option maxHeartbeats 1600000 in
theorem same20_any (v u : Value) (l : List (Nat → Int)) (w : World) (h : StL w v l) (h2 : StL w u l) : Calls Try.prog 20 #[v, u] w (QuietPost (.bool true) w) := by
  obtain ⟨p, c, rfl, hn, hc⟩ := h
  obtain ⟨p2, c2, rfl, _, hc2⟩ := h2
  have C := Lib.hid hc
  have C2 := Lib.hid hc2
  obtain ⟨n, hnl⟩ : ∃ n, n = l.length := ⟨_, rfl⟩
  rw [← hnl] at hn C C2 ⊢
  clear hc hc2 hnl
  go_enter Try.func20, Try.ntmps20
  go_wp2_with fail
  go_loopw [5] (fun i wr => ∃ k : Nat, k ≤ n ∧ i = .int .i64 k ∧ ∃ m, wr = w.drewN m) (fun i _ => n - (intOf i).toNat)
  case atStart => exact ⟨0, by omega, rfl, 0, rfl⟩
  case round =>
    obtain ⟨k, hk, rfl, m, rfl⟩ := hrel
    by_cases hlt : k < n
    · obtain ⟨g, off, rfl, hp⟩ := C.out (by omega)
      obtain ⟨g2, off2, rfl, hp2⟩ := C2.out (by omega)
      have c0 := hp k hlt 0 (by omega)
      have c1 := hp k hlt 1 (by omega)
      have c2 := hp k hlt 2 (by omega)
      have c3 := hp k hlt 3 (by omega)
      have c4 := hp k hlt 4 (by omega)
      have c5 := hp k hlt 5 (by omega)
      have c6 := hp k hlt 6 (by omega)
      have d0 := hp2 k hlt 0 (by omega)
      have d1 := hp2 k hlt 1 (by omega)
      have d2 := hp2 k hlt 2 (by omega)
      have d3 := hp2 k hlt 3 (by omega)
      have d4 := hp2 k hlt 4 (by omega)
      have d5 := hp2 k hlt 5 (by omega)
      have d6 := hp2 k hlt 6 (by omega)
      rw [Nat.add_zero] at c0 d0
      have hk0 : (0 : Int) ≤ (k : Int) := by omega
      have hk3 : (k : Int) < (n : Int) := by omega
      obtain ⟨x0, h0⟩ : ∃ x, x = l.getD k (fun _ => 0) 0 := ⟨_, rfl⟩
      obtain ⟨x1, h1⟩ : ∃ x, x = l.getD k (fun _ => 0) 1 := ⟨_, rfl⟩
      obtain ⟨x2, h2⟩ : ∃ x, x = l.getD k (fun _ => 0) 2 := ⟨_, rfl⟩
      obtain ⟨x3, h3⟩ : ∃ x, x = l.getD k (fun _ => 0) 3 := ⟨_, rfl⟩
      obtain ⟨x4, h4⟩ : ∃ x, x = l.getD k (fun _ => 0) 4 := ⟨_, rfl⟩
      obtain ⟨x5, h5⟩ : ∃ x, x = l.getD k (fun _ => 0) 5 := ⟨_, rfl⟩
      obtain ⟨x6, h6⟩ : ∃ x, x = l.getD k (fun _ => 0) 6 := ⟨_, rfl⟩
      rw [← h0] at c0 d0
      rw [← h1] at c1 d1
      rw [← h2] at c2 d2
      rw [← h3] at c3 d3
      rw [← h4] at c4 d4
      rw [← h5] at c5 d5
      rw [← h6] at c6 d6
      have EQ : ∀ W, (Op.equalIn 9999 57 (.agg #[.int .i64 x1, .int .i64 x2, .int .i64 x3, .int .i64 x4, .int .i64 x5, .int .i64 x6]) (.agg #[.int .i64 x1, .int .i64 x2, .int .i64 x3, .int .i64 x4, .int .i64 x5, .int .i64 x6])).run Try.prog W = .ok true W := fun W => eq_arr 9996 x1 x2 x3 x4 x5 x6 W
      clear hp hp2 h0 h1 h2 h3 h4 h5 h6
      go_wp2_with fail
      go_quiet (fail)
      go_wp2_with fail
      refine ⟨⟨k + 1, by omega, by go_num, _, rfl⟩, by (first | (simp [intOf]; done) | (simp [intOf]; omega) | (simp only [intOf]; omega))⟩
    · go_wp2_with fail
      go_ret
      exact ⟨rfl, _, rfl⟩
end Go.Proofs.Ythglgempbdaikaa
