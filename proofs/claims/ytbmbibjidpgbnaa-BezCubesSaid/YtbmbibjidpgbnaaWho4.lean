/- Contracts of the reference's whole numbers: Of. -/
import Derived.Test.YtbmbibjidpgbnaaWho2
import Derived.Test.YtbmbibjidpgbnaaNum6
namespace Go.Proofs.Ytbmbibjidpgbnaa
open Go.RowKit

def I63 : Int := 9223372036854775808
theorem nt_one (w : World) (v : Value) (g cap : Nat) (hv : v = .slice (some ⟨g, 0, none⟩) 1 cap) (hc : 1 ≤ cap) (h : w.cell? ⟨g, 0, none⟩ = some (.int .u32 1)) : Nt w v 1 := by
  subst hv
  have h0 : Rd .u32 w (.slice (some ⟨g, 0, none⟩) 1 cap) [1] := ⟨_, _, rfl, by simp, fun _ => ⟨_, _, rfl, fun j hj => by
    have : j = 0 := by simp at hj; omega
    subst this
    exact h⟩⟩
  exact ⟨by rw [show dg 4294967296 1 = [1] by decide]; exact h0, ⟨_, _, _, rfl, hc⟩⟩
theorem nt_new1 (w : World) : Nt (w.alloc (.cells #[.int .u32 1] 132)) (.slice (some ⟨w.heap.size, 0, none⟩) 1 1) 1 :=
  nt_one _ _ _ _ rfl (by omega) (by rw [World.cell?_alloc_new]; rfl)
set_option maxRecDepth 100000 in
set_option maxHeartbeats 1600000 in
theorem WOf_any (n : Int) (w : World) (h0 : -I63 ≤ n) (h1 : n < I63) : Calls Try.prog 80 #[.int .i64 n] w (WhPost n w) := by
  by_cases hn : n < 0
  · have r0 : 0 ≤ -1 - n := by omega
    have r1 : -1 - n ≤ U64 := by unfold I63 at h0; unfold U64; omega
    have t1 : IntKind.i64.wrap (-1 - n) = -1 - n := IntWalk.i64_in _ (by unfold I63 at h0; omega)
    have t2 : IntKind.u64.wrap (-1 - n) = -1 - n := IntWalk.u64_in _ (by unfold I63 at h0; omega)
    have hs : Hid (Small (-1 - n).toNat) := Lib.hid (by unfold Small M64; unfold I63 at h0; omega)
    have hs2 : Hid (Small ((-1 - n).toNat + 1)) := Lib.hid (by unfold Small M64; unfold I63 at h0; omega)
    have hv : Hid (sgn true ((-1 - n).toNat + 1) = n) := Lib.hid (by simp [sgn]; omega)
    clear h0 h1
    go_enter Try.func80, Try.ntmps80
    go_wp2_with fail
    obtain ⟨w0, hw0⟩ : ∃ w0, w0 = w.alloc (.cells #[.bool false, .slice none 0 0] 104) := ⟨_, rfl⟩
    have X0 := Lib.hid (show BxAt w0 w.heap.size [.bool false, .slice none 0 0] by rw [hw0]; exact BxAt.new w _ _)
    have B0 : Hid (Below w.heap.size w w0) := Lib.hid (by rw [hw0]; exact below_alloc _ _)
    rw [← hw0]
    clear hw0
    refine (Of_any (-1 - n) w0 r0 r1).mono ?_
    rintro e w1 ⟨⟨v1, rfl, hd1⟩, hb1⟩
    have D1 := Lib.hid hd1
    have B1 := Lib.hid (bthen B0.out hb1)
    have X1 := Lib.hid (X0.out.later hb1)
    clear hd1 hb1 X0 B0 t1 t2
    go_wp2_with fail
    refine (Add_any _ _ (-1 - n).toNat 1 _ hs.out (Small.of (by omega)) (D1.out.later (below_alloc _ _)) (nt_new1 w1)).mono ?_
    rintro e w2 ⟨⟨v2, rfl, hd2⟩, hb2⟩
    have D2 := Lib.hid hd2
    have B2 := Lib.hid (bthen (bthen B1.out (below_alloc _ _)) hb2)
    have X2 := Lib.hid ((X1.out.later (below_alloc _ _)).later hb2)
    clear hd2 hb2 X1 B1
    go_wp2_with fail
    refine (Make_any true v2 _ w2 hs2.out D2.out).mono ?_
    rintro e w3 ⟨⟨b3, s3, rfl, h3⟩, hb3⟩
    rw [hv.out] at h3
    obtain ⟨ps, ns, cs, rfl⟩ := h3.form
    have R := Lib.hid h3
    have Z3 := Lib.hid (X2.out.later hb3)
    have B3 := Lib.hid (bthen B2.out hb3)
    clear h3 hb3
    have q0 := Z3.out.2.2 0 _ rfl
    have q1 := Z3.out.2.2 1 _ rfl
    have qf := Z3.out.2.1
    go_wp2_with fail
    refine bodyPost_ret (v := .agg #[.bool b3, .slice ps ns cs]) ?_ rfl ⟨⟨_, _, rfl, R.out.store2 _ _ Z3.out⟩, below_store2 B3.out (by omega) _ _⟩
    simp [results, Try.results80, go_sem, q0, q1]
  · have r0 : 0 ≤ n := by omega
    have r1 : n ≤ U64 := by unfold I63 at h1; unfold U64; omega
    have t2 : IntKind.u64.wrap n = n := IntWalk.u64_in _ (by unfold I63 at h1; omega)
    have hs : Hid (Small n.toNat) := Lib.hid (by unfold Small M64; unfold I63 at h1; omega)
    have hv : Hid (sgn false n.toNat = n) := Lib.hid (by simp [sgn]; omega)
    clear h0 h1
    go_enter Try.func80, Try.ntmps80
    go_wp2_with fail
    obtain ⟨w0, hw0⟩ : ∃ w0, w0 = w.alloc (.cells #[.bool false, .slice none 0 0] 104) := ⟨_, rfl⟩
    have X0 := Lib.hid (show BxAt w0 w.heap.size [.bool false, .slice none 0 0] by rw [hw0]; exact BxAt.new w _ _)
    have B0 : Hid (Below w.heap.size w w0) := Lib.hid (by rw [hw0]; exact below_alloc _ _)
    rw [← hw0]
    clear hw0
    refine (Of_any n w0 r0 r1).mono ?_
    rintro e w1 ⟨⟨v1, rfl, hd1⟩, hb1⟩
    have D2 := Lib.hid hd1
    have B2 := Lib.hid (bthen B0.out hb1)
    have X2 := Lib.hid (X0.out.later hb1)
    clear hd1 hb1 X0 B0 t2
    go_wp2_with fail
    refine (Make_any false v1 _ w1 hs.out D2.out).mono ?_
    rintro e w3 ⟨⟨b3, s3, rfl, h3⟩, hb3⟩
    rw [hv.out] at h3
    obtain ⟨ps, ns, cs, rfl⟩ := h3.form
    have R := Lib.hid h3
    have Z3 := Lib.hid (X2.out.later hb3)
    have B3 := Lib.hid (bthen B2.out hb3)
    clear h3 hb3
    have q0 := Z3.out.2.2 0 _ rfl
    have q1 := Z3.out.2.2 1 _ rfl
    have qf := Z3.out.2.1
    go_wp2_with fail
    refine bodyPost_ret (v := .agg #[.bool b3, .slice ps ns cs]) ?_ rfl ⟨⟨_, _, rfl, R.out.store2 _ _ Z3.out⟩, below_store2 B3.out (by omega) _ _⟩
    simp [results, Try.results80, go_sem, q0, q1]
end Go.Proofs.Ytbmbibjidpgbnaa
