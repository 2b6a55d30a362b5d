/- Contracts of the reference's Add, Swap, Try. -/
import Derived.Test.YtbmbibjidpgbnaaTal3
import Derived.BigRegion
namespace Go.Proofs.Ytbmbibjidpgbnaa
open Go.RowKit
theorem Only.drew {g : Nat} {a w : World} (h : Only g a w) : Only g a w.drew := ⟨h.os, h.tape, h.output, h.size, h.block⟩
theorem IsRef.drew {w : World} {g : Nat} {N P : Nat → Int} (h : IsRef w g N P) : IsRef w.drew g N P := h

theorem swap_r (g : Nat) (N P : Nat → Int) (k n : Int) (w : World) (h : IsRef w g N P) : Calls Try.prog 33 #[.pointer (some ⟨g, 0, none⟩), .int .i64 k, .int .i64 n] w fun e w' =>
    e = .returned (.int .i64 (getV N k)) ∧ IsRef w' g (setN N k n) P ∧ Only g w w' := by
  rcases in_or_out k with ⟨j, hj, rfl⟩ | ⟨ho, hn⟩
  · obtain ⟨h1, h2, h3, h4⟩ := h j hj
    have hN : setN N (j : Int) n = upd N j n := by unfold setN; rw [if_pos (by omega)]; simp
    have HE := Lib.hid hN
    clear hN
    have HS := Lib.hid (h.setNow hj n)
    have H := Lib.hid h
    clear h
    go_enter Try.func33, Try.ntmps33
    go_wp2_with (first | (go_at_call 36; refine (get_r g N P _ _ H.out).mono ?_; rintro e w' ⟨rfl, rfl⟩))
    go_ret
    rw [HE.out]
    exact ⟨rfl, HS.out, (Only.refl _ _).setCell _ _⟩
  · have hN : setN N k n = N := if_neg hn
    rw [hN]; clear hN hn
    have H := Lib.hid h
    clear h
    rcases ho with ho | ho
    · go_enter Try.func33, Try.ntmps33
      go_wp2_with (first | (go_at_call 36; refine (get_r g N P _ _ H.out).mono ?_; rintro e w' ⟨rfl, rfl⟩))
      go_ret
      exact ⟨rfl, H.out, Only.refl _ _⟩
    · have hk0 : ¬ k < 0 := by omega
      go_enter Try.func33, Try.ntmps33
      go_wp2_with (first | (go_at_call 36; refine (get_r g N P _ _ H.out).mono ?_; rintro e w' ⟨rfl, rfl⟩))
      go_ret
      exact ⟨rfl, H.out, Only.refl _ _⟩

theorem try_r (g : Nat) (N P : Nat → Int) (k m n : Int) (w : World) (h : IsRef w g N P) : Calls Try.prog 35 #[.pointer (some ⟨g, 0, none⟩), .int .i64 k, .int .i64 m, .int .i64 n] w fun e w' =>
    e = .returned (.bool (tryV N k m)) ∧ IsRef w' g (tryN N k m n) P ∧ Only g w w' := by
  rcases in_or_out k with ⟨j, hj, rfl⟩ | ⟨ho, hn⟩
  · obtain ⟨h1, h2, h3, h4⟩ := h j hj
    by_cases hm : N j = m
    · have hv : tryV N (j : Int) m = true := by unfold tryV; simp; omega
      have hN : tryN N (j : Int) m n = upd N j n := by unfold tryN; rw [if_pos hv]; simp
      have HE := Lib.hid hN
      rw [hv]; clear hv hN
      subst hm
      have HS := Lib.hid (h.setNow hj n)
      clear h
      go_enter Try.func35, Try.ntmps35
      go_wp2
      go_ret
      rw [HE.out]
      exact ⟨rfl, HS.out, (Only.refl _ _).setCell _ _⟩
    · have hv : tryV N (j : Int) m = false := by unfold tryV; simp; omega
      have hN : tryN N (j : Int) m n = N := by unfold tryN; rw [hv]; simp
      rw [hv, hN]; clear hv hN
      have H := Lib.hid h
      clear h
      have hb : (N j != m) = true := by simpa using hm
      go_enter Try.func35, Try.ntmps35
      go_wp2
      go_ret
      exact ⟨rfl, H.out, Only.refl _ _⟩
  · have hv : tryV N k m = false := by unfold tryV; simp; omega
    have hN : tryN N k m n = N := by unfold tryN; rw [hv]; simp
    rw [hv, hN]; clear hv hN hn
    have H := Lib.hid h
    clear h
    rcases ho with ho | ho
    · go_enter Try.func35, Try.ntmps35
      go_wp2
      go_ret
      exact ⟨rfl, H.out, Only.refl _ _⟩
    · have hk0 : ¬ k < 0 := by omega
      go_enter Try.func35, Try.ntmps35
      go_wp2
      go_ret
      exact ⟨rfl, H.out, Only.refl _ _⟩

set_option maxHeartbeats 1600000 in
theorem add_r (g : Nat) (N P : Nat → Int) (k n : Int) (w : World) (h : IsRef w g N P) : Calls Try.prog 31 #[.pointer (some ⟨g, 0, none⟩), .int .i64 k, .int .i64 n] w fun e w' =>
    e = .returned (.int .i64 (addV N k n)) ∧ IsRef w' g (addN N k n) (addP N P k n) ∧ Only g w w' := by
  rcases in_or_out k with ⟨j, hj, rfl⟩ | ⟨ho, hn⟩
  · obtain ⟨h1, h2, h3, h4⟩ := h j hj
    have hv : addV N (j : Int) n = wrap64 (N j + n) := by unfold addV; rw [if_pos (by omega)]; simp
    have hN : addN N (j : Int) n = upd N j (wrap64 (N j + n)) := by unfold addN; rw [if_pos (by omega)]; simp
    have hP : addP N P (j : Int) n = if wrap64 (N j + n) ≤ P j then P else upd P j (wrap64 (N j + n)) := by unfold addP; rw [if_pos (by omega)]; simp
    have HE := Lib.hid (And.intro hN hP)
    rw [hv]; clear hv hN hP
    have hs := h.setNow hj (wrap64 (N j + n))
    obtain ⟨s1, s2, s3, s4⟩ := hs j hj
    rw [show upd N j (wrap64 (N j + n)) j = wrap64 (N j + n) from if_pos rfl] at s1
    have HS := Lib.hid hs
    clear h hs
    by_cases hle : wrap64 (N j + n) ≤ P j
    · have hd : decide (P j < wrap64 (N j + n)) = false := by simp; omega
      go_enter Try.func31, Try.ntmps31
      go_wp2
      go_region
      all_goals (go_wp2; go_region)
      all_goals go_wp2
      all_goals go_ret
      all_goals
        obtain ⟨hN, hP⟩ := HE.out
        rw [hN, hP, if_pos (by omega)]
        exact ⟨rfl, HS.out, ((Only.refl _ _).setCell _ _).drew.drew⟩
    · have hp := HS.out.setPeak hj (wrap64 (N j + n))
      obtain ⟨t1, t2, t3, t4⟩ := hp j hj
      rw [show upd N j (wrap64 (N j + n)) j = wrap64 (N j + n) from if_pos rfl] at t1
      rw [show upd P j (wrap64 (N j + n)) j = wrap64 (N j + n) from if_pos rfl] at t2
      have HT := Lib.hid hp
      clear hp
      go_enter Try.func31, Try.ntmps31
      go_wp2
      go_region
      all_goals (go_wp2; go_region)
      all_goals (go_wp2; go_region)
      all_goals go_wp2
      all_goals go_ret
      all_goals
        obtain ⟨hN, hP⟩ := HE.out
        rw [hN, hP, if_neg (by omega)]
        exact ⟨rfl, HT.out, ((Only.refl _ _).setCell _ _).setCell _ _ |>.drew.drew.drew⟩
  · have hv : addV N k n = 0 := if_neg hn
    have hN : addN N k n = N := if_neg hn
    have hP : addP N P k n = P := if_neg hn
    rw [hv, hN, hP]; clear hv hN hP hn
    have H := Lib.hid h
    clear h
    rcases ho with ho | ho
    · go_enter Try.func31, Try.ntmps31
      go_wp2
      go_ret
      exact ⟨rfl, H.out, Only.refl _ _⟩
    · have hk0 : ¬ k < 0 := by omega
      go_enter Try.func31, Try.ntmps31
      go_wp2
      go_ret
      exact ⟨rfl, H.out, Only.refl _ _⟩
end Go.Proofs.Ytbmbibjidpgbnaa
