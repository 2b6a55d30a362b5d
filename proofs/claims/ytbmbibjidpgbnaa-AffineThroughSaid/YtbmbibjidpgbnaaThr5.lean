/- The contract of affine.All. -/
import Derived.Test.YtbmbibjidpgbnaaThr4
namespace Go.Proofs.Ytbmbibjidpgbnaa
open Go.RowKit

set_option maxRecDepth 100000 in
set_option maxHeartbeats 6400000 in
theorem all_any (a : Option Addr) (len cap : Nat) (ms : Nat → Mp) (v : Value) (n : Nat) (X Y : Nat → Int) (w : World) (hn43 : n ≤ 8796093022207) (hM : Maps w.heap.size w (.slice a len cap) len ms) (h : Pts w v n X Y) :
    Calls Try.prog 27 #[.slice a len cap, v] w (AllPost (fun j => goT (upto (rev len ms) len) (X j) (Y j)) n w) := by
  obtain ⟨i0, hi, hz0, hz1, hz2⟩ := info_parts Try.info25
  obtain ⟨p, c, rfl, _, hc⟩ := h
  have M := Lib.hid hM
  have C := Lib.hid hc
  clear hc hM
  obtain ⟨f, hf⟩ : ∃ f : Nat → Int × Int × Int, f = fun j => goT (upto (rev len ms) len) (X j) (Y j) := ⟨_, rfl⟩
  rw [← hf]
  have F : Hid (∀ j, goT (upto (rev len ms) len) (X j) (Y j) = f j) := Lib.hid (fun j => by rw [hf])
  clear hf
  go_enter Try.func27, Try.ntmps27
  have MK : n * 16 ≤ 140737488355328 := by omega
  go_wp2_with (at_make; go_loud (refine wpList_make_own _ rfl _ _ 47 rfl w.heap.size 25 i0 (.agg #[.int .i64 0, .int .i64 0]) 2 Try.underlying47 hi hz0 hz1 _ _ _ n rfl rfl (by omega) ?b2 ?b3 (Nat.le_refl _) ?_))
  case b2 => rw [hz2]; omega
  case b3 => unfold maxLen; omega
  intro w0 hown0 hgrow0
  have R0 := Lib.hid (show w0.ownsRow w.heap.size 25 2 (.slice (some ⟨w.heap.size, 0, none⟩) 0 n) 0 (rowT f 0) ∧ Below w.heap.size w w0 from ⟨hown0, (Below.refl _ _).grown hgrow0 (Nat.le_refl _) (fun k h => by cases h)⟩)
  clear hown0 hgrow0
  go_wp2_with fail
  go_loopw [6, 16] (fun v i wr => ∃ k : Nat, k ≤ n ∧ i = .int .i64 k ∧ OkTo f k ∧ wr.ownsRow w.heap.size 25 2 v k (rowT f k) ∧ Below w.heap.size w wr) (fun _ i _ => n - (intOf i).toNat)
  case atStart => exact ⟨0, by omega, rfl, (fun j hj => by omega), R0.out.1, R0.out.2⟩
  case round =>
    obtain ⟨k, hk, rfl, hok, hown, hb⟩ := hrel
    have K := Lib.hid hok
    have O := Lib.hid hown
    have B := Lib.hid hb
    clear hok hown hb
    by_cases hlt : k < n
    · obtain ⟨g, off, rfl, hp⟩ := C.out (by omega)
      obtain ⟨c0, c1⟩ := hp.later B.out k hlt
      have hk0 : (0 : Int) ≤ (k : Int) := by omega
      have hk3 : (k : Int) < (n : Int) := by omega
      obtain ⟨x, hx⟩ : ∃ x, x = X k := ⟨_, rfl⟩
      obtain ⟨y, hy⟩ : ∃ y, y = Y k := ⟨_, rfl⟩
      rw [← hx] at c0
      rw [← hy] at c1
      have F1 : Hid (goT (upto (rev len ms) len) x y = f k) := Lib.hid (by rw [hx, hy]; exact F.out k)
      clear hp hx hy
      go_wp2_with fail
      have Ba : Below w.heap.size w (wr.alloc (.cells #[.int .i64 x, .int .i64 y] 25)) := B.out.alloc B.out.size _
      have Oa := O.out.alloc (.cells #[.int .i64 x, .int .i64 y] 25)
      obtain ⟨wa, hwa⟩ : ∃ wa, wa = wr.alloc (.cells #[.int .i64 x, .int .i64 y] 25) := ⟨_, rfl⟩
      rw [← hwa] at Ba Oa ⊢
      clear hwa
      refine (through_any a len cap ms x y wa (Maps.wide Ba.size (Maps.below Ba M.out))).mono ?_
      rintro e w1 ⟨rfl, hb⟩
      rw [F1.out]
      have O1 := own_later Oa hb
      have B1 := Lib.hid (Ba.trans (hb.mono Ba.size))
      clear hb O B c0 c1 Oa Ba
      obtain ⟨q1, hq1⟩ : ∃ z, z = (f k).1 := ⟨_, rfl⟩
      obtain ⟨q2, hq2⟩ : ∃ z, z = (f k).2.1 := ⟨_, rfl⟩
      obtain ⟨q3, hq3⟩ : ∃ z, z = (f k).2.2 := ⟨_, rfl⟩
      rw [← hq1, ← hq2, ← hq3]
      have Q : Hid (q1 = (f k).1 ∧ q2 = (f k).2.1 ∧ q3 = (f k).2.2) := Lib.hid ⟨hq1, hq2, hq3⟩
      clear hq1 hq2 hq3
      by_cases h0 : q3 = 0
      · subst h0
        have O2 := O1.alloc (.cells #[.int .i64 q1, .int .i64 q2] 25)
        clear O1
        have s1 := B1.out.size
        have hbase : w.heap.size ≤ (w1.alloc (.cells #[.int .i64 q1, .int .i64 q2] 25)).heap.size := by simp; omega
        have hsz2 : (w1.alloc (.cells #[.int .i64 q1, .int .i64 q2] 25)).heap.size = w1.heap.size + 1 := by simp
        have BB : Hid (Below w.heap.size w (w1.alloc (.cells #[.int .i64 q1, .int .i64 q2] 25))) := Lib.hid (B1.out.alloc s1 _)
        go_wp2_with (at_builtin; go_loud (refine wpList_app (w0 := w1.alloc (.cells #[.int .i64 q1, .int .i64 q2] 25)) rfl (.tmp 29) (.tmp 31) 47 rfl w.heap.size 25 i0 (.agg #[.int .i64 0, .int .i64 0]) 2 16 [.int .i64 q1, .int .i64 q2] Try.underlying47 hi hz0 hz1 hz2 rfl rfl (by decide) _ _ _ rfl O2 (by rw [hsz2]; rfl) (by simp [Value.oneCell']) ?c1 ?c2 hbase ?_))
        case c1 => unfold maxLen; omega
        case c2 => omega
        intro g' cap' w5 hown5 hb5
        have S := Lib.hid (BB.out.trans hb5)
        have O5 : Hid (w5.ownsRow w.heap.size 25 2 (.slice (some ⟨g', 0, none⟩) (k + 1) cap') (k + 1) (rowT f (k + 1))) := Lib.hid (by
          have e1 := Q.out.1
          have e2 := Q.out.2.1
          unfold rowT
          rw [← e1, ← e2]
          exact hown5)
        clear hown5 hb5 O2 BB hbase
        go_wp2_with fail
        refine ⟨⟨k + 1, by omega, by go_num, ?_, O5.out, S.out⟩, by (first | (simp [intOf]; done) | (simp [intOf]; omega) | (simp only [intOf]; omega))⟩
        intro j hj
        by_cases e : j = k
        · subst e; exact Q.out.2.2.symm
        · exact K.out j (by omega)
      · have O2 := Lib.hid O1
        clear O1
        go_wp2_with fail
        refine bodyPost_ret (v := .tuple #[.slice none 0 0, .int .i64 q3]) ?_ rfl ?_
        · simp [results, Try.results27, go_sem]
        · refine ⟨?_, Or.inl ⟨k, hlt, K.out, ?_, ?_⟩⟩
          · have B := B1.out
            have := B.size
            ((repeat' (first | with_reducible exact Below.refl _ _ | with_reducible assumption | with_reducible refine Below.drew ?_ | with_reducible refine Below.alloc ?_ ?_ _ | with_reducible refine Below.setCell ?_ ?_ _)) <;> (first | omega | (simp; done) | (simp; omega)))
          · rw [← Q.out.2.2]; exact h0
          · rw [Q.out.2.2]
    · have ek : k = n := by omega
      subst ek
      go_wp2_with fail
      refine bodyPost_ret (v := .tuple #[u6, .int .i64 0]) ?_ rfl ?_
      · simp [results, Try.results27, go_sem]
      · exact ⟨B.out, Or.inr ⟨K.out, u6, rfl, Pts.of_owns (by omega) O.out⟩⟩
end Go.Proofs.Ytbmbibjidpgbnaa
