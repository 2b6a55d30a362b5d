/- Contracts of the reference's roots: copied, zero. -/
import Derived.Test.YthglgempbdaikaaNum8
import Derived.Test.YthglgempbdaikaaNum7
namespace Go.Proofs.Ythglgempbdaikaa
open Go.RowKit

/-- digits of 32 bits in words of 64 -/
def Ug (w : World) (v : Value) (a : Nat) : Prop := Rd .u64 w v (dg 4294967296 a) ∧ CapOk v
theorem Ug.later {w w1 : World} {v : Value} {a : Nat} (h : Ug w v a) (hb : Below w.heap.size w w1) : Ug w1 v a := ⟨h.1.later hb, h.2⟩
theorem rd_cells {k : IntKind} {B : Nat} (hB : 2 ≤ B) {w : World} {v : Value} {a : Nat} (h : Rd k w v (dg B a)) :
    ∃ p cap, v = .slice p (dg B a).length cap ∧ (0 < (dg B a).length → ∃ g off, p = some ⟨g, off, none⟩ ∧ ∀ j, j < (dg B a).length → w.cell? ⟨g, off + j, none⟩ = some (.int k (a / B ^ j % B : Nat))) := by
  obtain ⟨p, cap, rfl, hl, hc⟩ := h
  refine ⟨p, cap, rfl, fun h0 => ?_⟩
  obtain ⟨g, off, hp, hcc⟩ := hc h0
  refine ⟨g, off, hp, fun j hj => ?_⟩
  have this : w.cell? ⟨g, off + j, none⟩ = some (.int k ((dg B a).getD j 0 : Nat)) := hcc j hj
  rwa [dg_getD hB] at this
set_option maxRecDepth 100000 in
set_option maxHeartbeats 1600000 in
theorem copied_any (v : Value) (a : Nat) (w : World) (ha : Small a) (h : Nt w v a) : Calls Try.prog 100 #[v] w fun e w' => (∃ v', e = .returned v' ∧ Ug w' v' a) ∧ Below w.heap.size w w' := by
  obtain ⟨i0, hi, hz0, hz1, hz2⟩ := info_parts Try.info137
  obtain ⟨p, cap, rfl, hc⟩ := rd_cells (by omega) h.1
  have la := ha.dg32
  have hsn := Lib.hid (dg_take_snoc (B := 4294967296) (by omega) a)
  have htl : Hid ((dg 4294967296 a).take (dg 4294967296 a).length = dg 4294967296 a) := Lib.hid List.take_length
  obtain ⟨L, hL⟩ : ∃ L, L = dg 4294967296 a := ⟨_, rfl⟩
  rw [← hL] at hsn hc la htl ⊢
  have HL := Lib.hid hL
  have C := Lib.hid hc
  clear hL hc h ha
  go_enter Try.func100, Try.ntmps100
  go_wp2_with fail
  go_loopw [3, 4] (fun d i wr => ∃ k : Nat, k ≤ L.length ∧ i = .int .i64 k ∧ wr.ownsRow w.heap.size 137 1 d k (ints .u64 (L.take k)) ∧ Below w.heap.size w wr) (fun _ i _ => L.length - (intOf i).toNat)
  case atStart => exact ⟨0, by omega, rfl, World.ownsRow_nil _ _ _ _, Below.refl _ _⟩
  case round =>
    obtain ⟨k, hk, rfl, ho, hb⟩ := hrel
    have O := Lib.hid ho
    have B := Lib.hid hb
    clear ho hb
    by_cases hlt : k < L.length
    · obtain ⟨g, off, rfl, hcc⟩ := C.out (by omega)
      have c0 := cell_later B.out (hcc k hlt)
      have S := Lib.hid (hsn.out k hlt)
      obtain ⟨x, hx⟩ : ∃ x, x = a / 4294967296 ^ k % 4294967296 := ⟨_, rfl⟩
      have hx1 : x < 4294967296 := by omega
      rw [← hx] at c0 S
      clear hcc hx
      have HO := O.out
      go_wp2_with (at_builtin; go_loud (refine wpList_app (w0 := wr) rfl (.tmp 11) (.tmp 17) 141 rfl w.heap.size 137 i0 (.int .u64 0) 1 8 [.int .u64 (x : Int)] Try.underlying141 hi hz0 hz1 hz2 rfl rfl (by decide) _ _ _ rfl HO rfl (by simp [Value.oneCell']) ?c1 ?c2 B.out.size ?_))
      case c1 => unfold maxLen; omega
      case c2 => omega
      intro g' cap' w5 hown5 hb5
      have O2 := Lib.hid (show w5.ownsRow w.heap.size 137 1 (.slice (some ⟨g', 0, none⟩) (k + 1) cap') (k + 1) (ints .u64 (L.take (k + 1))) from by
        rw [S.out]; simpa [ints] using hown5)
      have B2 := Lib.hid (B.out.trans hb5)
      clear hown5 hb5 HO
      go_wp2_with fail
      refine ⟨⟨k + 1, by omega, by go_num, O2.out, B2.out⟩, by (first | (simp [intOf]; done) | (simp [intOf]; omega) | (simp only [intOf]; omega))⟩
    · obtain rfl : k = L.length := by omega
      go_wp2_with fail
      go_ret
      have ho := O.out
      rw [htl.out] at ho
      exact ⟨⟨_, rfl, by rw [← HL.out]; exact Rd.of_owns ho (by omega), own_cap ho⟩, B.out⟩
set_option maxRecDepth 100000 in
set_option maxHeartbeats 1600000 in
theorem zero_any (v : Value) (a : Nat) (w : World) (ha : Small a) (h : Ug w v a) : Calls Try.prog 101 #[v] w fun e w' => e = .returned (.bool (decide (a = 0))) ∧ w = w' := by
  obtain ⟨p, cap, rfl, hc⟩ := rd_cells (by omega) h.1
  have la := ha.dg32
  have hz := Lib.hid (fun h0 => val_zeros (B := 4294967296) (dg 4294967296 a) h0)
  rw [val_dg (by omega)] at hz
  have hg := Lib.hid (dg_getD (B := 4294967296) (by omega) a)
  obtain ⟨n, hn⟩ : ∃ n, n = (dg 4294967296 a).length := ⟨_, rfl⟩
  rw [← hn] at hz hc la ⊢
  have C := Lib.hid hc
  clear hn hc h ha
  go_enter Try.func101, Try.ntmps101
  go_wp2_with fail
  go_loop [3] (fun i => ∃ k : Nat, k ≤ n ∧ i = .int .i64 k ∧ ∀ j, j < k → (dg 4294967296 a).getD j 0 = 0) (fun i => n - (intOf i).toNat)
  case atStart => exact ⟨0, by omega, rfl, fun j hj => by omega⟩
  case round =>
    obtain ⟨k, hk, rfl, hz0⟩ := hrel
    have Z := Lib.hid hz0
    clear hz0
    by_cases hlt : k < n
    · obtain ⟨g, off, rfl, hcc⟩ := C.out (by omega)
      have c0 := hcc k hlt
      have G := Lib.hid (hg.out k)
      obtain ⟨x, hx⟩ : ∃ x, x = a / 4294967296 ^ k % 4294967296 := ⟨_, rfl⟩
      rw [← hx] at c0 G
      have X := Lib.hid hx
      clear hcc hx
      by_cases h0 : x = 0
      · subst h0
        go_wp2_with fail
        go_round
        case rel =>
          refine ⟨k + 1, by omega, by go_num, fun j hj => ?_⟩
          by_cases e : j = k
          · subst e; exact G.out
          · exact Z.out j (by omega)
        case measure => (first | (simp [intOf]; done) | (simp [intOf]; omega) | (simp only [intOf]; omega))
      · have h1 : ((x : Int) != 0) = true := by simp; omega
        have hne : Hid (decide (a = 0) = false) := Lib.hid (by
          apply decide_eq_false
          intro e
          apply h0
          rw [X.out, e]; simp)
        go_wp2_with fail
        go_ret
        exact ⟨by rw [hne.out]; rfl, rfl⟩
    · obtain rfl : k = n := by omega
      have ht : Hid (decide (a = 0) = true) := Lib.hid (decide_eq_true (hz.out Z.out))
      go_wp2_with fail
      go_ret
      exact ⟨by rw [ht.out]; rfl, rfl⟩
end Go.Proofs.Ythglgempbdaikaa
