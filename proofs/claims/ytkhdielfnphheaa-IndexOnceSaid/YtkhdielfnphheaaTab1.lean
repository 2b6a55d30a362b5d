/- Contract of tabulate. -/
import Derived.Test.YtkhdielfnphheaaTab0
import Derived.Test.YtkhdielfnphheaaNew0
namespace Go.Proofs.Ytkhdielfnphheaa
open Go.RowKit

theorem Try.info117 : (Try.prog.info? 117).map (fun i => (i.zero, i.size, i.bytes)) = some (some (.agg #[.int .i64 0, .int .i64 0]), 2, 16) := by kernel_rfl
theorem Try.underlying88 : Try.prog.underlying 88 = some (.slice 117) := by kernel_rfl
/-- the names, as a slice of ints reads -/
def NamesV (w : World) (a : Option Addr) (n : Nat) (N : Nat → Int) : Prop := 0 < n → ∃ g off, a = some ⟨g, off, none⟩ ∧ ∀ j, j < n → w.cell? ⟨g, off + j, none⟩ = some (.int .i64 (N j))
def TabPost (N : Nat → Int) (n : Nat) (w : World) (e : Ending) (w' : World) : Prop := ∃ v tw, e = .returned (.agg #[v, .bool tw]) ∧ Below w.heap.size w w' ∧ TabV w.heap.size w' v tw N n
set_option maxRecDepth 100000 in
set_option maxHeartbeats 6400000 in
theorem tabulate_any (a : Option Addr) (n cap : Nat) (N : Nat → Int) (w : World) (hn : n ≤ 3600000000000) (hr : NamesV w a n N) :
    Calls Try.prog 43 #[.slice a n cap] w (TabPost N n w) := by
  obtain ⟨i0, hi, hz0, hz1, hz2⟩ := info_parts Try.info117
  have HA := Lib.hid hr
  clear hr
  obtain ⟨w1, hw1⟩ : ∃ w1, w1 = (w.alloc (.cells #[.slice none 0 0, .bool false] 90)).alloc (.cells #[.slice none 0 0, .bool false] 90) := ⟨_, rfl⟩
  have B1 : Hid (Below w.heap.size w w1) := Lib.hid (by rw [hw1]; exact bel2 _ _ _)
  have R1 : Hid (BxAt w1 w.heap.size [.slice none 0 0, .bool false]) := Lib.hid (by rw [hw1]; exact (BxAt.new w _ _).later (below_alloc _ _))
  have T1 : Hid (BxAt w1 (w.heap.size + 1) [.slice none 0 0, .bool false]) := Lib.hid (by rw [hw1]; exact bx_b w _ _ _)
  have S1 : Hid (w1.heap.size = w.heap.size + 1 + 1) := Lib.hid (by rw [hw1]; simp)
  have HW1 := Lib.hid hw1
  clear hw1
  go_enter Try.func43, Try.ntmps43
  go_wp2_with fail
  rw [← HW1.out]
  go_loopw [9] (fun x wr => ∃ (k : Nat) (p : Option Addr) (m c : Nat), x = .int .i64 k ∧ k ≤ n ∧ m = k ∧ (k = 0 → p = none ∧ c = 0) ∧ Below w.heap.size w wr ∧ BxAt wr w.heap.size [.slice none 0 0, .bool false] ∧ BxAt wr (w.heap.size + 1) [.slice p m c, .bool false] ∧ wr.ownsRow (w.heap.size + 1 + 1) 117 2 (.slice p m c) k (rowE N k) ∧ w.heap.size + 1 + 1 ≤ wr.heap.size) (fun x _ => n - (intOf x).toNat)
  case atStart => exact ⟨0, none, 0, 0, rfl, by omega, rfl, fun _ => ⟨rfl, rfl⟩, B1.out, R1.out, T1.out, ⟨by simp [rowE], .inl ⟨rfl, rfl⟩⟩, by have := S1.out; omega⟩
  case round =>
    obtain ⟨k, p, m, c, rfl, hk, rfl, h0, hb, hR, hT, hown, hsz⟩ := hrel
    have BB := Lib.hid hb
    have RR := Lib.hid hR
    have TT := Lib.hid hT
    have OW := Lib.hid hown
    have H0 := Lib.hid h0
    by_cases hlt : m < n
    · obtain ⟨g, off, rfl, hc⟩ := HA.out (by omega)
      have c0 := cell_later hb (hc m hlt)
      have hk0 : (0 : Int) ≤ (m : Int) := by omega
      have hk3 : (m : Int) < (n : Int) := by omega
      have e0 := hT.2.2 0 _ rfl
      have ef := hT.2.1
      have zT := hT.1
      obtain ⟨x, hx⟩ : ∃ x, x = N m := ⟨_, rfl⟩
      have HX := Lib.hid hx
      rw [← hx] at c0
      clear hb hR hT hown h0 hc hx
      go_wp2_with (at_builtin; go_loud (refine wpList_app (w0 := wr) rfl (.tmp 15) (.tmp 19) 88 rfl (w.heap.size + 1 + 1) 117 i0 (.agg #[.int .i64 0, .int .i64 0]) 2 16 [.int .i64 x, .int .i64 m] Try.underlying88 hi hz0 hz1 hz2 rfl rfl (by decide) _ _ _ rfl OW.out (by first | rfl | (simp; rfl) | simp) (by simp [Value.oneCell']) ?c1 ?c2 hsz ?_))
      case c1 => unfold maxLen; omega
      case c2 => omega
      intro g' cap' w5 own5 hb5
      rw [HX.out] at own5
      have O5 := Lib.hid own5
      have B5 := Lib.hid hb5
      have T5 := TT.out.under hb5 (by omega)
      have e5 := T5.2.2 0 _ rfl
      have f5 := T5.2.1
      have z5 := T5.1
      have TT5 := Lib.hid T5
      have s5 := hb5.size
      clear own5 hb5 T5 c0 e0 ef
      go_wp2_with fail
      refine ⟨⟨m + 1, some ⟨g', 0, none⟩, m + 1, cap', by go_num, by omega, rfl, fun h => by omega, ?_, ?_, ?_, ?_, ?_⟩, by (first | (simp [intOf]; done) | (simp [intOf]; omega) | (simp only [intOf]; omega))⟩
      · exact (BB.out.trans (B5.out.mono (by omega))).setCell (p := ⟨w.heap.size + 1, 0, none⟩) (by show w.heap.size ≤ w.heap.size + 1; omega) _
      · exact (RR.out.under B5.out (by omega)).far _ (by omega)
      · exact TT5.out.put 0 _ (by simp)
      · exact ownsRow_setCell_below (a := ⟨w.heap.size + 1, 0, none⟩) O5.out (show w.heap.size + 1 < w.heap.size + 1 + 1 by omega) _
      · simp; omega
    · obtain rfl : m = n := by omega
      have hk3 : ¬ (m : Int) < (m : Int) := by omega
      have e0 := hT.2.2 0 _ rfl
      have e1 := hT.2.2 1 _ rfl
      have ef := hT.2.1
      have zT := hT.1
      clear hb hR hT hown h0
      by_cases hz : m = 0
      · obtain ⟨rfl, rfl⟩ := H0.out hz
        subst hz
        have S1 := Lib.hid (sortsf_nil wr)
        go_wp2_with fail
        refine S1.out.mono ?_
        rintro e w2 ⟨rfl, hb2⟩
        have BB2 := Lib.hid hb2
        have T2 := Lib.hid (TT.out.later hb2)
        have R2 := Lib.hid (RR.out.later hb2)
        have e0 := T2.out.2.2 0 _ rfl
        have e1 := T2.out.2.2 1 _ rfl
        have ef := T2.out.2.1
        have zT := T2.out.1
        have C1 := Lib.hid (compact_nil w2)
        clear hb2
        go_wp2_with fail
        refine C1.out.mono ?_
        rintro e w3 ⟨rfl, hb3⟩
        have BB3 := Lib.hid hb3
        have T3 := Lib.hid (T2.out.later hb3)
        have R3 := Lib.hid (R2.out.later hb3)
        have e0 := T3.out.2.2 0 _ rfl
        have e1 := T3.out.2.2 1 _ rfl
        have ef := T3.out.2.1
        have zT := T3.out.1
        have r0 := R3.out.2.2 0 _ rfl
        have r1 := R3.out.2.2 1 _ rfl
        have rf := R3.out.2.1
        have zR := R3.out.1
        clear hb3
        go_wp2_with fail
        obtain ⟨wf, hwf⟩ : ∃ wf, wf = ((((w3.setCell ⟨w.heap.size + 1, 0, none⟩ (.slice none 0 0)).setCell ⟨w.heap.size + 1, 1, none⟩ (.bool false)).setCell ⟨w.heap.size, 0, none⟩ (.slice none 0 0)).setCell ⟨w.heap.size, 1, none⟩ (.bool false)) := ⟨_, rfl⟩
        rw [← hwf]
        have RF : BxAt wf w.heap.size [.slice none 0 0, .bool false] := by rw [hwf]; exact (((R3.out.far _ (by omega)).far _ (by omega)).put 0 _ (by simp)).put 1 _ (by simp)
        have q0 := RF.2.2 0 _ rfl
        have q1 := RF.2.2 1 _ rfl
        have BF : Hid (Below w.heap.size w wf) := Lib.hid (by
          rw [hwf]
          exact (((((BB.out.trans (BB2.out.mono BB.out.size)).trans (BB3.out.mono (BB.out.trans (BB2.out.mono BB.out.size)).size)).setCell (p := ⟨w.heap.size + 1, 0, none⟩) (by show w.heap.size ≤ w.heap.size + 1; omega) _).setCell (p := ⟨w.heap.size + 1, 1, none⟩) (by show w.heap.size ≤ w.heap.size + 1; omega) _).setCell (p := ⟨w.heap.size, 0, none⟩) (Nat.le_refl _) _).setCell (p := ⟨w.heap.size, 1, none⟩) (Nat.le_refl _) _)
        refine bodyPost_ret (v := .agg #[.slice none 0 0, .bool false]) ?_ rfl ⟨_, _, rfl, BF.out, TabV.nil _ _ _⟩
        simp [results, Try.results43, go_sem, q0, q1]
      · obtain ⟨A, cap2, hv, hA1, hA2, hA3, hen⟩ := ents_own OW.out (by omega)
        obtain ⟨rfl, rfl⟩ : p = some ⟨A, 0, none⟩ ∧ c = cap2 := by simpa using hv
        have AL := Lib.hid hA1
        have AC := Lib.hid hA2
        have S1 := Lib.hid (sortsf_any A m c (entsN N) wr hen (by omega) (ents_ups N m))
        clear hv hA1 hA2 hA3 hen
        go_wp2_with fail
        refine S1.out.mono ?_
        rintro e w2 ⟨rfl, hf2, E2, hen2, so2, sa2, ou2⟩
        have F2 := Lib.hid hf2
        have T2 := Lib.hid (TT.out.frm hf2 (by have := AL.out; omega))
        have R2 := Lib.hid (RR.out.frm hf2 (by have := AL.out; omega))
        have TK := Lib.hid (tab_of (tabs_of so2 sa2))
        have C1 := Lib.hid (compact_any A m c E2 w2 hen2 (by omega) AC.out)
        have e0 := T2.out.2.2 0 _ rfl
        have e1 := T2.out.2.2 1 _ rfl
        have ef := T2.out.2.1
        have zT := T2.out.1
        clear hf2 hen2 so2 sa2 ou2
        go_wp2_with fail
        refine C1.out.mono ?_
        rintro e w3 ⟨rfl, hf3, hen3⟩
        obtain ⟨KL, hKL⟩ : ∃ K, K = keptL E2 m := ⟨_, rfl⟩
        rw [← hKL] at TK hen3 ⊢
        obtain ⟨L, hL⟩ : ∃ L, L = KL.length := ⟨_, rfl⟩
        rw [← hL] at hen3 ⊢
        have HL := Lib.hid hL
        have F3 := Lib.hid hf3
        have EN3 := Lib.hid hen3
        have T3 := Lib.hid (T2.out.frm hf3 (by have := AL.out; omega))
        have R3 := Lib.hid (R2.out.frm hf3 (by have := AL.out; omega))
        have e0 := T3.out.2.2 0 _ rfl
        have e1 := T3.out.2.2 1 _ rfl
        have ef := T3.out.2.1
        have zT := T3.out.1
        have r0 := R3.out.2.2 0 _ rfl
        have r1 := R3.out.2.2 1 _ rfl
        have rf := R3.out.2.1
        have zR := R3.out.1
        obtain ⟨tw, htw⟩ : ∃ tw, tw = decide (L < m) := ⟨_, rfl⟩
        have HT := Lib.hid htw
        clear hL hKL hf3 hen3 C1 S1 htw
        go_wp2_with fail
        rw [← HT.out]
        obtain ⟨wf, hwf⟩ : ∃ wf, wf = ((((w3.setCell ⟨w.heap.size + 1, 0, none⟩ (.slice (some ⟨A, 0, none⟩) L c)).setCell ⟨w.heap.size + 1, 1, none⟩ (.bool tw)).setCell ⟨w.heap.size, 0, none⟩ (.slice (some ⟨A, 0, none⟩) L c)).setCell ⟨w.heap.size, 1, none⟩ (.bool tw)) := ⟨_, rfl⟩
        rw [← hwf]
        have RF : BxAt wf w.heap.size [.slice (some ⟨A, 0, none⟩) L c, .bool tw] := by rw [hwf]; exact (((R3.out.far _ (by omega)).far _ (by omega)).put 0 _ (by simp)).put 1 _ (by simp)
        have q0 := RF.2.2 0 _ rfl
        have q1 := RF.2.2 1 _ rfl
        have BF : Hid (Below w.heap.size w wf) := Lib.hid (by
          rw [hwf]
          exact (((((BB.out.trans (F2.out.below (by have := AL.out; omega) BB.out.size)).trans (F3.out.below (by have := AL.out; omega) (Nat.le_trans BB.out.size F2.out.size))).setCell (p := ⟨w.heap.size + 1, 0, none⟩) (by show w.heap.size ≤ w.heap.size + 1; omega) _).setCell (p := ⟨w.heap.size + 1, 1, none⟩) (by show w.heap.size ≤ w.heap.size + 1; omega) _).setCell (p := ⟨w.heap.size, 0, none⟩) (Nat.le_refl _) _).setCell (p := ⟨w.heap.size, 1, none⟩) (Nat.le_refl _) _)
        have EF : EntB wf A L (fun j => KL.getD j (0, 0)) := by rw [hwf]; exact (((EN3.out.far _ (by have := AL.out; omega)).far _ (by have := AL.out; omega)).far _ (by have := AL.out; omega)).far _ (by have := AL.out; omega)
        refine bodyPost_ret (v := .agg #[.slice (some ⟨A, 0, none⟩) L c, .bool tw]) ?_ rfl ⟨_, _, rfl, BF.out, KL, TK.out, ?_, some ⟨A, 0, none⟩, c, by rw [HL.out], fun _ => ⟨A, rfl, by have := AL.out; omega, by rw [← HL.out]; exact EF⟩⟩
        · simp [results, Try.results43, go_sem, q0, q1]
        · rw [HT.out, HL.out]
end Go.Proofs.Ytkhdielfnphheaa
