/- Contracts of Swap and Try of a tally, and of the reference's tally. -/
import Derived.Test.YtbmbibjidpgbnaaTal2
namespace Go.Proofs.Ytbmbibjidpgbnaa
open Go.RowKit

theorem swap_t (g : Nat) (N P : Nat → Int) (k n : Int) (w : World) (h : IsTally w g N P) : Calls Try.prog 32 #[.pointer (some ⟨g, 0, none⟩), .int .i64 k, .int .i64 n] w fun e w' =>
    e = .returned (.int .i64 (getV N k)) ∧ IsTally w' g (setN N k n) P ∧ Only g w w' := by
  rcases in_or_out k with ⟨j, hj, rfl⟩ | ⟨ho, hn⟩
  · obtain ⟨h1, h2, h3, h4⟩ := h j hj
    have hv : getV N (j : Int) = N j := by unfold getV; rw [if_pos (by omega)]; simp
    have hN : setN N (j : Int) n = upd N j n := by unfold setN; rw [if_pos (by omega)]; simp
    have HE := Lib.hid hN
    rw [hv]; clear hv hN
    have HS := Lib.hid (h.setNow hj n)
    clear h
    go_enter Try.func32, Try.ntmps32
    go_wp2_with (first | (go_at_call 51; refine (at_some g j _ hj).mono ?_; rintro e w' ⟨rfl, rfl⟩) | (go_at_call 56; refine (swap64 _ _ _ _ h1 h3).mono ?_; rintro e w' ⟨rfl, rfl⟩))
    go_ret
    rw [HE.out]
    exact ⟨rfl, HS.out, (Only.refl _ _).setCell _ _⟩
  · have hv : getV N k = 0 := if_neg hn
    have hN : setN N k n = N := if_neg hn
    rw [hv, hN]; clear hv hN hn
    have H := Lib.hid h
    clear h
    go_enter Try.func32, Try.ntmps32
    go_wp2_with (first | (go_at_call 51; refine (at_none _ _ _ ho).mono ?_; rintro e w' ⟨rfl, rfl⟩))
    go_ret
    exact ⟨rfl, H.out, Only.refl _ _⟩

theorem try_t (g : Nat) (N P : Nat → Int) (k m n : Int) (w : World) (h : IsTally w g N P) : Calls Try.prog 34 #[.pointer (some ⟨g, 0, none⟩), .int .i64 k, .int .i64 m, .int .i64 n] w fun e w' =>
    e = .returned (.bool (tryV N k m)) ∧ IsTally w' g (tryN N k m n) P ∧ Only g w w' := by
  rcases in_or_out k with ⟨j, hj, rfl⟩ | ⟨ho, hn⟩
  · obtain ⟨h1, h2, h3, h4⟩ := h j hj
    by_cases hm : N j = m
    · have hv : tryV N (j : Int) m = true := by unfold tryV; simp; omega
      have hN : tryN N (j : Int) m n = upd N j n := by unfold tryN; rw [if_pos hv]; simp
      have HE := Lib.hid hN
      rw [hv]; clear hv hN
      subst hm
      have HS := Lib.hid (h.setNow hj n)
      clear h
      go_enter Try.func34, Try.ntmps34
      go_wp2_with (first | (go_at_call 51; refine (at_some g j _ hj).mono ?_; rintro e w' ⟨rfl, rfl⟩) | (go_at_call 57; refine (cas64_hit _ _ _ _ h1 h3).mono ?_; rintro e w' ⟨rfl, rfl⟩))
      go_ret
      rw [HE.out]
      exact ⟨rfl, HS.out, (Only.refl _ _).setCell _ _⟩
    · have hv : tryV N (j : Int) m = false := by unfold tryV; simp; omega
      have hN : tryN N (j : Int) m n = N := by unfold tryN; rw [hv]; simp
      rw [hv, hN]; clear hv hN
      have H := Lib.hid h
      clear h
      go_enter Try.func34, Try.ntmps34
      go_wp2_with (first | (go_at_call 51; refine (at_some g j _ hj).mono ?_; rintro e w' ⟨rfl, rfl⟩) | (go_at_call 57; refine (cas64_miss _ _ _ _ _ h1 h3 hm).mono ?_; rintro e w' ⟨rfl, rfl⟩))
      go_ret
      exact ⟨rfl, H.out, Only.refl _ _⟩
  · have hv : tryV N k m = false := by unfold tryV; simp; omega
    have hN : tryN N k m n = N := by unfold tryN; rw [hv]; simp
    rw [hv, hN]; clear hv hN hn
    have H := Lib.hid h
    clear h
    go_enter Try.func34, Try.ntmps34
    go_wp2_with (first | (go_at_call 51; refine (at_none _ _ _ ho).mono ?_; rintro e w' ⟨rfl, rfl⟩))
    go_ret
    exact ⟨rfl, H.out, Only.refl _ _⟩

/-- the reference's counts and peaks in block r -/
def IsRef (w : World) (r : Nat) (N P : Nat → Int) : Prop := ∀ k, k < 7 →
  w.cell? ⟨r, k, none⟩ = some (.int .i64 (N k)) ∧ w.cell? ⟨r, 7 + k, none⟩ = some (.int .i64 (P k)) ∧ w.frozen? ⟨r, k, none⟩ = false ∧ w.frozen? ⟨r, 7 + k, none⟩ = false
theorem IsRef.only {g g' : Nat} {w w' : World} {N P : Nat → Int} (h : IsRef w g N P) (ho : Only g' w w') (hg : g ≠ g') : IsRef w' g N P := fun k hk => by
  obtain ⟨h1, h2, h3, h4⟩ := h k hk
  exact ⟨by rw [ho.cell hg]; exact h1, by rw [ho.cell hg]; exact h2, by rw [ho.frozen hg]; exact h3, by rw [ho.frozen hg]; exact h4⟩
theorem IsRef.setNow {w : World} {g : Nat} {N P : Nat → Int} (h : IsRef w g N P) {k : Nat} (hk : k < 7) (v : Int) : IsRef (w.setCell ⟨g, k, none⟩ (.int .i64 v)) g (upd N k v) P := fun j hj => by
  obtain ⟨h1, h2, h3, h4⟩ := h j hj
  refine ⟨?_, ?_, by rw [World.frozen?_setCell]; exact h3, by rw [World.frozen?_setCell]; exact h4⟩
  · by_cases e : j = k
    · subst e
      rw [World.cell?_setCell_same' _ _ _ (by rw [h1]; rfl)]; simp [upd]
    · rw [World.cell?_setCell_other _ _ _ _ (by intro e2; have := congrArg Addr.off e2; simp at this; omega), h1]; simp [upd, e]
  · rw [World.cell?_setCell_other _ _ _ _ (by intro e2; have := congrArg Addr.off e2; simp at this; omega), h2]
theorem IsRef.setPeak {w : World} {g : Nat} {N P : Nat → Int} (h : IsRef w g N P) {k : Nat} (hk : k < 7) (v : Int) : IsRef (w.setCell ⟨g, 7 + k, none⟩ (.int .i64 v)) g N (upd P k v) := fun j hj => by
  obtain ⟨h1, h2, h3, h4⟩ := h j hj
  refine ⟨?_, ?_, by rw [World.frozen?_setCell]; exact h3, by rw [World.frozen?_setCell]; exact h4⟩
  · rw [World.cell?_setCell_other _ _ _ _ (by intro e2; have := congrArg Addr.off e2; simp at this; omega), h1]
  · by_cases e : j = k
    · subst e
      rw [World.cell?_setCell_same' _ _ _ (by rw [h2]; rfl)]; simp [upd]
    · rw [World.cell?_setCell_other _ _ _ _ (by intro e2; have := congrArg Addr.off e2; simp at this; omega), h2]; simp [upd, e]

theorem get_r (g : Nat) (N P : Nat → Int) (k : Int) (w : World) (h : IsRef w g N P) : Calls Try.prog 36 #[.pointer (some ⟨g, 0, none⟩), .int .i64 k] w fun e w' => e = .returned (.int .i64 (getV N k)) ∧ w = w' := by
  rcases in_or_out k with ⟨j, hj, rfl⟩ | ⟨ho, hn⟩
  · obtain ⟨h1, h2, h3, h4⟩ := h j hj
    have hv : getV N (j : Int) = N j := by unfold getV; rw [if_pos (by omega)]; simp
    rw [hv]; clear hv h
    go_enter Try.func36, Try.ntmps36
    go_wp2
    go_ret
    exact ⟨rfl, rfl⟩
  · have hv : getV N k = 0 := if_neg hn
    rw [hv]; clear hv hn h
    rcases ho with ho | ho
    · go_enter Try.func36, Try.ntmps36
      go_wp2
      go_ret
      exact ⟨rfl, rfl⟩
    · have hk0 : ¬ k < 0 := by omega
      go_enter Try.func36, Try.ntmps36
      go_wp2
      go_ret
      exact ⟨rfl, rfl⟩
theorem top_r (g : Nat) (N P : Nat → Int) (k : Int) (w : World) (h : IsRef w g N P) : Calls Try.prog 38 #[.pointer (some ⟨g, 0, none⟩), .int .i64 k] w fun e w' => e = .returned (.int .i64 (getV P k)) ∧ w = w' := by
  rcases in_or_out k with ⟨j, hj, rfl⟩ | ⟨ho, hn⟩
  · obtain ⟨h1, h2, h3, h4⟩ := h j hj
    have hv : getV P (j : Int) = P j := by unfold getV; rw [if_pos (by omega)]; simp
    rw [hv]; clear hv h
    go_enter Try.func38, Try.ntmps38
    go_wp2
    go_ret
    exact ⟨rfl, rfl⟩
  · have hv : getV P k = 0 := if_neg hn
    rw [hv]; clear hv hn h
    rcases ho with ho | ho
    · go_enter Try.func38, Try.ntmps38
      go_wp2
      go_ret
      exact ⟨rfl, rfl⟩
    · have hk0 : ¬ k < 0 := by omega
      go_enter Try.func38, Try.ntmps38
      go_wp2
      go_ret
      exact ⟨rfl, rfl⟩
end Go.Proofs.Ytbmbibjidpgbnaa
