/- Contracts of the reference's whole numbers: Int. -/
import Derived.Test.YtbmbibjidpgbnaaWho5
import Derived.Test.YtbmbibjidpgbnaaWho4
import Derived.Test.YtbmbibjidpgbnaaNum12
namespace Go.Proofs.Ytbmbibjidpgbnaa
open Go.RowKit

theorem up_word (a k : Nat) : a / 4294967296 ^ (k + 1) * 4294967296 + a / 4294967296 ^ k % 4294967296 = a / 4294967296 ^ k := by
  rw [Nat.pow_succ, ← Nat.div_div_eq_div_mul]
  have := Nat.mod_add_div (a / 4294967296 ^ k) 4294967296
  omega
theorem low_sign {z : Int} (h : z.natAbs ≤ 281474976710656) : (z - -9223372036854775808).sign = 1 := Int.sign_eq_one_of_pos (by omega)
theorem high_sign {z : Int} (h : z.natAbs ≤ 281474976710656) : (z - 9223372036854775807).sign = -1 := Int.sign_eq_neg_one_of_neg (by omega)
theorem small_const : Small (-9223372036854775808 : Int).natAbs ∧ Small (9223372036854775807 : Int).natAbs := ⟨Small.of (by omega), Small.of (by omega)⟩
theorem small_diff {z : Int} (h : z.natAbs ≤ 281474976710656) : Small (z - -9223372036854775808).natAbs ∧ Small (z - 9223372036854775807).natAbs := by
  unfold Small M64
  omega
theorem i63_const : -I63 ≤ -9223372036854775808 ∧ (-9223372036854775808 : Int) < I63 ∧ -I63 ≤ 9223372036854775807 ∧ (9223372036854775807 : Int) < I63 := by unfold I63; omega
def WIntPost (z : Int) (w : World) (e : Ending) (w' : World) : Prop := e = .returned (.tuple #[.int .i64 z, .bool true]) ∧ Below w.heap.size w w'
set_option maxRecDepth 100000 in
set_option maxHeartbeats 3200000 in
theorem WInt_any (b : Bool) (s : Value) (z : Int) (w : World) (hz : z.natAbs ≤ 281474976710656) (h : Whp w b s z) :
    Calls Try.prog 82 #[.agg #[.bool b, s]] w (WIntPost z w) := by
  have A := Lib.hid h
  have L1 := Lib.hid (low_sign hz)
  have L2 := Lib.hid (high_sign hz)
  have SZ : Hid (Small z.natAbs) := Lib.hid (Small.of (by omega))
  have SD := Lib.hid (small_diff hz)
  have SV := Lib.hid (sgn_self h.1)
  obtain ⟨p, cap, rfl, hc⟩ := rd_cells (B := 4294967296) (by omega) h.2.1
  have la := SZ.out.dg32
  have la2 := dg_lt_pow (B := 4294967296) (by omega) z.natAbs
  obtain ⟨m, hm⟩ : ∃ m, m = z.natAbs := ⟨_, rfl⟩
  rw [← hm] at hc la la2 SV hz A ⊢
  obtain ⟨n, hn⟩ : ∃ n, n = (dg 4294967296 m).length := ⟨_, rfl⟩
  rw [← hn] at hc la la2 A ⊢
  have C := Lib.hid hc
  have HM := Lib.hid hm
  have HZ := Lib.hid hz
  have E0 : Hid (m / 4294967296 ^ n = 0) := Lib.hid (Nat.div_eq_of_lt la2)
  clear h hz hm hn hc la2
  go_enter Try.func82, Try.ntmps82
  obtain ⟨w0, hw0⟩ : ∃ w0, w0 = w.alloc (.cells #[.bool b, .slice p n cap] 104) := ⟨_, rfl⟩
  have X0 := Lib.hid (show BxAt w0 w.heap.size [.bool b, .slice p n cap] by rw [hw0]; exact BxAt.new w _ _)
  have B0 : Hid (Below w.heap.size w w0) := Lib.hid (by rw [hw0]; exact below_alloc _ _)
  have A := Lib.hid (A.out.later B0.out)
  have e0 : w.alloc (.cells #[.bool b, .slice p n cap] 104) = w0 := hw0.symm
  clear hw0
  have a0 := X0.out.2.2 0 _ rfl
  have a1 := X0.out.2.2 1 _ rfl
  go_wp2_with fail
  clear e0
  obtain ⟨lo, hlo⟩ : ∃ lo : Int, lo = -9223372036854775808 := ⟨_, rfl⟩
  obtain ⟨hi, hhi⟩ : ∃ hi : Int, hi = 9223372036854775807 := ⟨_, rfl⟩
  rw [← hlo, ← hhi]
  have C1 : Hid (-I63 ≤ lo ∧ lo < I63 ∧ -I63 ≤ hi ∧ hi < I63) := Lib.hid (by rw [hlo, hhi]; exact i63_const)
  rw [← hlo] at L1
  rw [← hhi] at L2
  rw [← hlo, ← hhi] at SD
  have SC : Hid (Small lo.natAbs ∧ Small hi.natAbs) := Lib.hid (by rw [hlo, hhi]; exact small_const)
  clear hlo hhi
  go_region_held3 (fun w' => w'.cell? ⟨w.heap.size, 0, none⟩ = some (.bool b) ∧ w'.cell? ⟨w.heap.size, 1, none⟩ = some (.slice p n cap))
    (first | exact ⟨a0, a1⟩ | exact ⟨by assumption, by assumption⟩)
    (first
      | (go_at_call 80; (with_reducible refine (WOf_any lo _ C1.out.1 C1.out.2.1).mono ?_); rintro e w1 ⟨⟨b1, s1, rfl, h1⟩, hb1⟩; have k1 : Below w0.heap.size w0 w1 := bel_drew hb1; have a0' := cell_later k1 a0; have a1' := cell_later k1 a1)
      | (go_at_call 95; (with_reducible refine (WCmp_any _ _ _ _ z lo _ SZ.out SC.out.1 SD.out.1 (A.out.later k1) h1).mono ?_); rintro e w2 ⟨rfl, hb2⟩; rw [L1.out]; have k2 := bthen k1 hb2; have a0'' := cell_later k2 a0; have a1'' := cell_later k2 a1)
      | (go_at_call 80; (with_reducible refine (WOf_any hi _ C1.out.2.2.1 C1.out.2.2.2).mono ?_); rintro e w3 ⟨⟨b3, s3, rfl, h3⟩, hb3⟩; have k3 := bthen k2 hb3; have a0q := cell_later k3 a0; have a1q := cell_later k3 a1)
      | (go_at_call 95; (with_reducible refine (WCmp_any _ _ _ _ z hi _ SZ.out SC.out.2 SD.out.2 (A.out.later k3) h3).mono ?_); rintro e w4 ⟨rfl, hb4⟩; rw [L2.out]; have k4 := bthen k3 hb4; have a0r := cell_later k4 a0; have a1r := cell_later k4 a1))
  go_wp2_with fail
  have C4 := Lib.hid (fun h0 => C.out h0)
  have K4 := Lib.hid k4
  clear a0 a1 a0' a1' a0'' a1'' a0q a1q hb1 hb2 hb3 hb4 h1 h3 k1 k2 k3 k4
  cases b
  · go_loop [4, 5] (fun x i => ∃ k : Nat, k ≤ n ∧ i = .int .i64 ((k : Int) - 1) ∧ x = .int .i64 (m / 4294967296 ^ k : Nat)) (fun _ i => (intOf i + 1).toNat)
    case atStart => exact ⟨n, by omega, rfl, by rw [E0.out]; rfl⟩
    case round =>
      obtain ⟨k, hk, rfl, rfl⟩ := hrel
      cases k with
      | zero =>
        go_wp2_with fail
        refine bodyPost_ret (v := .tuple #[.int .i64 z, .bool true]) ?_ rfl ⟨rfl, bthen B0.out K4.out⟩
        have e := SV.out
        simp [sgn] at e
        simp [results, Try.results82, go_sem, e]
      | succ k =>
        obtain ⟨g, off, rfl, hcc⟩ := C4.out (by omega)
        have c0 := cell_later K4.out (cell_later B0.out (hcc k (by omega)))
        have hk2 : (((k + 1 : Nat) : Int) - 1) = (k : Int) := by omega
        rw [hk2]
        have hu := up_word m k
        have hle : m / 4294967296 ^ k ≤ m := Nat.div_le_self _ _
        have hm0 := HZ.out
        obtain ⟨y, hy⟩ : ∃ y, y = m / 4294967296 ^ k := ⟨_, rfl⟩
        obtain ⟨x, hx⟩ : ∃ x, x = m / 4294967296 ^ (k + 1) := ⟨_, rfl⟩
        rw [← hx, ← hy] at hu
        rw [← hy] at c0 hle
        obtain ⟨d, hd⟩ : ∃ d, d = y % 4294967296 := ⟨_, rfl⟩
        rw [← hd] at hu c0
        have hd1 : d < 4294967296 := by omega
        have HY := Lib.hid (And.intro hy hu)
        have hx1 : x ≤ 65536 := by omega
        rw [← hx]
        clear hu hd hx hy hk2 hcc hle hm0
        go_wp2_with fail
        go_round
        case rel => exact ⟨k, by omega, by go_num, by rw [← HY.out.1]; exact congrArg (fun z => Value.int .i64 z) (by have := HY.out.2; omega)⟩
        case measure => (first | (simp [intOf]; done) | (simp [intOf]; omega) | (simp only [intOf]; omega))
  · go_loop [4, 5] (fun x i => ∃ k : Nat, k ≤ n ∧ i = .int .i64 ((k : Int) - 1) ∧ x = .int .i64 (-((m / 4294967296 ^ k : Nat) : Int))) (fun _ i => (intOf i + 1).toNat)
    case atStart => exact ⟨n, by omega, rfl, by rw [E0.out]; rfl⟩
    case round =>
      obtain ⟨k, hk, rfl, rfl⟩ := hrel
      cases k with
      | zero =>
        go_wp2_with fail
        refine bodyPost_ret (v := .tuple #[.int .i64 z, .bool true]) ?_ rfl ⟨rfl, bthen B0.out K4.out⟩
        have e := SV.out
        simp [sgn] at e
        simp [results, Try.results82, go_sem, e]
      | succ k =>
        obtain ⟨g, off, rfl, hcc⟩ := C4.out (by omega)
        have c0 := cell_later K4.out (cell_later B0.out (hcc k (by omega)))
        have hk2 : (((k + 1 : Nat) : Int) - 1) = (k : Int) := by omega
        rw [hk2]
        have hu := up_word m k
        have hle : m / 4294967296 ^ k ≤ m := Nat.div_le_self _ _
        have hm0 := HZ.out
        obtain ⟨y, hy⟩ : ∃ y, y = m / 4294967296 ^ k := ⟨_, rfl⟩
        obtain ⟨x, hx⟩ : ∃ x, x = m / 4294967296 ^ (k + 1) := ⟨_, rfl⟩
        rw [← hx, ← hy] at hu
        rw [← hy] at c0 hle
        obtain ⟨d, hd⟩ : ∃ d, d = y % 4294967296 := ⟨_, rfl⟩
        rw [← hd] at hu c0
        have hd1 : d < 4294967296 := by omega
        have HY := Lib.hid (And.intro hy hu)
        have hx1 : x ≤ 65536 := by omega
        rw [← hx]
        clear hu hd hx hy hk2 hcc hle hm0
        go_wp2_with fail
        go_round
        case rel => exact ⟨k, by omega, by go_num, by rw [← HY.out.1]; exact congrArg (fun z => Value.int .i64 z) (by have := HY.out.2; omega)⟩
        case measure => (first | (simp [intOf]; done) | (simp [intOf]; omega) | (simp only [intOf]; omega))
end Go.Proofs.Ytbmbibjidpgbnaa
