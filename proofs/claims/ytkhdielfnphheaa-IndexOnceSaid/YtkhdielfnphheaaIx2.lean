/- Contract of the sort's insertionSort. -/
import Derived.Test.YtkhdielfnphheaaIx1
namespace Go.Proofs.Ytkhdielfnphheaa
open Go.RowKit

abbrev cmpV : Value := .func (.func 52) #[] #[]
def SortPost (A N a b : Nat) (E : Nat → Ent) (w : World) (e : Ending) (w' : World) : Prop := e = .returned (.tuple #[]) ∧ FrmA w w' A ∧ ∃ E', EntB w' A N E' ∧ Sorted E' a b ∧ Same E E' a b ∧ Out E E' a b
theorem cmp_neg (x y : Int) : cmpI x y < 0 ↔ x < y := by unfold cmpI; repeat' split
                                                         all_goals omega
theorem one_same {E F : Nat → Ent} {a : Nat} (h : Same E F a (a + 1)) (o : Out E F a (a + 1)) : F = E := by
  funext k
  by_cases hk : k = a
  · subst hk
    obtain ⟨j, h1, h2, h3⟩ := h.mem (Nat.le_refl k) (Nat.lt_succ_self k)
    have : j = k := by omega
    rw [← h3, this]
  · exact o k (by omega)
/-- the cells of two entries -/
theorem EntB.two {w : World} {A N i j : Nat} {E : Nat → Ent} (h : EntB w A N E) (hi : i < N) (hj : j < N) : w.cell? ⟨A, i * 2, none⟩ = some (.int .i64 (E i).1) ∧ w.cell? ⟨A, i * 2 + 1, none⟩ = some (.int .i64 (E i).2) ∧ w.cell? ⟨A, j * 2, none⟩ = some (.int .i64 (E j).1) ∧ w.cell? ⟨A, j * 2 + 1, none⟩ = some (.int .i64 (E j).2) :=
  ⟨(h.2.2 i hi).1, (h.2.2 i hi).2, (h.2.2 j hj).1, (h.2.2 j hj).2⟩
def C4 (W : World) (A i j : Nat) (x0 y0 x1 y1 : Int) : Prop := W.cell? ⟨A, i * 2, none⟩ = some (.int .i64 x0) ∧ W.cell? ⟨A, i * 2 + 1, none⟩ = some (.int .i64 y0) ∧ W.cell? ⟨A, j * 2, none⟩ = some (.int .i64 x1) ∧ W.cell? ⟨A, j * 2 + 1, none⟩ = some (.int .i64 y1)
theorem C4.cells {W : World} {A i j : Nat} {x0 y0 x1 y1 : Int} (h : C4 W A i j x0 y0 x1 y1) : W.cell? ⟨A, i * 2, none⟩ = some (.int .i64 x0) ∧ W.cell? ⟨A, i * 2 + 1, none⟩ = some (.int .i64 y0) ∧ W.cell? ⟨A, j * 2, none⟩ = some (.int .i64 x1) ∧ W.cell? ⟨A, j * 2 + 1, none⟩ = some (.int .i64 y1) := h
theorem C4.drew {W : World} {A i j : Nat} {x0 y0 x1 y1 : Int} (h : C4 W A i j x0 y0 x1 y1) : C4 W.drew A i j x0 y0 x1 y1 := h
theorem C4.later {W W1 : World} {A i j : Nat} {x0 y0 x1 y1 : Int} (h : C4 W A i j x0 y0 x1 y1) (hb : Below W.heap.size W W1) : C4 W1 A i j x0 y0 x1 y1 :=
  ⟨cell_later hb h.1, cell_later hb h.2.1, cell_later hb h.2.2.1, cell_later hb h.2.2.2⟩
set_option maxRecDepth 100000 in
set_option maxHeartbeats 6400000 in
theorem insertion_any (A N cap : Nat) (E : Nat → Ent) (a b : Nat) (w : World) (h : EntB w A N E) (hN : N ≤ 4000000000000) (ha : a ≤ N) (hb : b ≤ N) (hp : ∀ p q, a ≤ p → p < q → q < b → (E p).2 < (E q).2) :
    Calls Try.prog 73 #[.slice (some ⟨A, 0, none⟩) N cap, .int .i64 a, .int .i64 b, cmpV] w (SortPost A N a b E w) := by
  have H := Lib.hid h
  have HP := Lib.hid hp
  clear h hp
  go_enter Try.func73, Try.ntmps73
  go_wp2_with fail
  go_loopw [8] (fun x wr => ∃ (i : Nat) (F : Nat → Ent), x = .int .i64 i ∧ a + 1 ≤ i ∧ (i ≤ b ∨ i = a + 1) ∧ EntB wr A N F ∧ Sorted F a i ∧ Same E F a i ∧ Out E F a i ∧ FrmA w wr A) (fun x _ => b - (intOf x).toNat)
  case atStart => exact ⟨a + 1, E, by go_num, Nat.le_refl _, Or.inr rfl, H.out, fun p q h1 h2 h3 => by omega, Same.refl _ _ _, Out.refl _ _ _, FrmA.refl _ _⟩
  case round =>
    obtain ⟨i, F, rfl, hi1, hi2, hen, hso, hsa, hou, hfr⟩ := hrel
    have FR := Lib.hid hfr
    have EN := Lib.hid hen
    have SO := Lib.hid hso
    have SA := Lib.hid hsa
    have OU := Lib.hid hou
    clear hfr hen hso hsa hou
    by_cases hlt : i < b
    · have hib : (i : Int) < (b : Int) := by omega
      have hiN : i < N := by omega
      have LST : Hid (∀ p, a ≤ p → p < i → (F p).2 < (F i).2) := Lib.hid (fun p h1 h2 => by
        obtain ⟨q, q1, q2, q3⟩ := SA.out.mem h1 h2
        rw [← q3, OU.out i (by omega)]
        exact HP.out q i q1 q2 hlt)
      have I0 := Lib.hid (InsI.start (E := F) (a := a) (i := i) (by omega) SO.out LST.out)
      go_wp2_with fail
      go_loopw [9] (fun x wz => ∃ (j : Nat) (G : Nat → Ent), x = .int .i64 j ∧ InsI F G a i j ∧ EntB wz A N G ∧ FrmA w wz A) (fun x _ => (intOf x).toNat)
      case atStart => exact ⟨i, F, rfl, I0.out, EN.out, FR.out⟩
      case round =>
        obtain ⟨j, G, rfl, hin, heg, hfg⟩ := hrel
        have IN := Lib.hid hin
        have EG := Lib.hid heg
        have FG := Lib.hid hfg
        have ja := hin.ja
        have ji := hin.ji
        clear hin hfg
        by_cases hja : a < j
        · obtain ⟨q, hq⟩ : ∃ q, q = j - 1 := ⟨_, rfl⟩
          have jq : (j : Int) - 1 = (q : Int) := by omega
          have wq : IntKind.i64.wrap ((j : Int) - 1) = (j : Int) - 1 := IntWalk.i64_in _ (by omega)
          have wq1 : (0 : Int) ≤ (j : Int) - 1 := by omega
          have wq2 : (j : Int) - 1 < (N : Int) := by omega
          have wq3 : ((j : Int) - 1).toNat = q := by omega
          have wqa : (1 : Int) ≤ (j : Int) := by omega
          have wqb : 1 ≤ j := by omega
          have wqc : (0 : Int) ≤ (j : Int) - 1 ∧ (j : Int) - 1 < (N : Int) := by omega
          have wqd : 0 < j := by omega
          have wqe : (0 : Int) < (j : Int) := by omega
          clear jq
          have hq0 : (0 : Int) ≤ (q : Int) := by omega
          have hj0 : (0 : Int) ≤ (j : Int) := by omega
          have hjN : j < N := by omega
          have hqN : q < N := by omega
          have hjI : (j : Int) < (N : Int) := by omega
          have hqI : (q : Int) < (N : Int) := by omega
          have hjaI : (a : Int) < (j : Int) := by omega
          have dja : decide ((a : Int) < (j : Int)) = true := decide_eq_true hjaI
          have STP : Hid ((G j).1 < (G q).1 → InsI F (swapF G j q) a i q) := Lib.hid (fun h => by rw [hq] at h ⊢; exact IN.out.step hja h)
          have STO : Hid (¬ (G j).1 < (G q).1 → Sorted G a (i + 1)) := Lib.hid (fun h => IN.out.stop (fun _ => by rw [← hq]; exact h))
          have C0 : C4 wr A j q (G j).1 (G j).2 (G q).1 (G q).2 := heg.two hjN hqN
          have CM := Lib.hid (fun W => cmp_any (G j).1 (G j).2 (G q).1 (G q).2 W)
          have CN := cmp_neg (G j).1 (G q).1
          have SW : Hid (∀ W, EntB W A N G → EntB ((((W.setCell ⟨A, j * 2, none⟩ (.int .i64 (G q).1)).setCell ⟨A, j * 2 + 1, none⟩ (.int .i64 (G q).2)).setCell ⟨A, q * 2, none⟩ (.int .i64 (G j).1)).setCell ⟨A, q * 2 + 1, none⟩ (.int .i64 (G j).2)) A N (swapF G j q)) := Lib.hid (fun W hW => hW.swap hjN hqN)
          have TW : Hid (∀ W, EntB W A N G → C4 W A j q (G j).1 (G j).2 (G q).1 (G q).2) := Lib.hid (fun W hW => hW.two hjN hqN)
          obtain ⟨x0, hx0⟩ : ∃ x, x = (G j).1 := ⟨_, rfl⟩
          obtain ⟨y0, hy0⟩ : ∃ x, x = (G j).2 := ⟨_, rfl⟩
          obtain ⟨x1, hx1⟩ : ∃ x, x = (G q).1 := ⟨_, rfl⟩
          obtain ⟨y1, hy1⟩ : ∃ x, x = (G q).2 := ⟨_, rfl⟩
          rw [← hx0, ← hx1] at STP STO CM CN C0 SW TW
          rw [← hy0, ← hy1] at CM C0 SW TW
          obtain ⟨cv, hcv⟩ : ∃ c, c = cmpI x0 x1 := ⟨_, rfl⟩
          rw [← hcv] at CM CN
          have HQ := Lib.hid hq
          clear hx0 hy0 hx1 hy1 hcv hq heg
          have C0H := Lib.hid C0
          have CC := C0
          have k8 : Below wr.heap.size wr wr := Below.refl _ _
          go_wp2_with fail
          go_region_held3 (fun w' => w'.cell? ⟨A, j * 2, none⟩ = some (.int .i64 x0) ∧ w'.cell? ⟨A, j * 2 + 1, none⟩ = some (.int .i64 y0) ∧ w'.cell? ⟨A, q * 2, none⟩ = some (.int .i64 x1) ∧ w'.cell? ⟨A, q * 2 + 1, none⟩ = some (.int .i64 y1))
            (first | with_reducible exact CC.cells | with_reducible exact CC.drew.cells)
            (first
              | (go_at_call 52; (with_reducible refine (CM.out wr.drew).mono ?_); rintro e v1 ⟨rfl, hb⟩; have k8 : Below wr.heap.size wr v1 := bel_drew hb; have CC := C0H.out.later k8))
          all_goals
            have E1 := EG.out.later k8
            have F1 := Lib.hid (FG.out.trans (FrmA.of_below k8))
            by_cases hc : x0 < x1
            · have dc : decide (cv < 0) = true := decide_eq_true (CN.2 hc)
              have hc0 : cv < 0 := CN.2 hc
              have fz := E1.2.1
              have zA := E1.1
              obtain ⟨c0, c1, d0, d1⟩ := CC.cells
              have S1 := Lib.hid (SW.out v1 E1)
              have I1 := Lib.hid (STP.out hc)
              clear CC E1 SW STP STO CN
              go_wp2_with fail
              go_region
              go_wp2_with fail
              refine ⟨⟨q, swapF G j q, by rw [show (j : Int) - 1 = (q : Int) from by have := HQ.out; omega], I1.out, S1.out.drew, F1.out.set.set.set.set.drew⟩, ?_⟩
              have := HQ.out
              simp only [intOf]
              omega
            · have dc : decide (cv < 0) = false := decide_eq_false (fun h => hc (CN.1 h))
              have hc0 : ¬ cv < 0 := fun h => hc (CN.1 h)
              have S1 := Lib.hid (STO.out (by omega))
              have E2 := Lib.hid E1
              have SM := Lib.hid ((SA.out.wide OU.out (Nat.le_refl a) (Nat.le_succ i)).trans IN.out.same)
              have OM := Lib.hid ((OU.out.wide (Nat.le_refl a) (Nat.le_succ i)).trans IN.out.out)
              clear CC E1 SW STP STO CN
              go_wp2_with fail
              refine ⟨⟨i + 1, G, by go_num, by omega, Or.inl (by omega), E2.out, S1.out, SM.out, OM.out, F1.out⟩, by (first | (simp [intOf]; done) | (simp [intOf]; omega) | (simp only [intOf]; omega))⟩
        · have hjaI : ¬ (a : Int) < (j : Int) := by omega
          have dja : decide ((a : Int) < (j : Int)) = false := decide_eq_false hjaI
          have S1 := Lib.hid (IN.out.stop (fun h => absurd h hja))
          have SM := Lib.hid ((SA.out.wide OU.out (Nat.le_refl a) (Nat.le_succ i)).trans IN.out.same)
          have OM := Lib.hid ((OU.out.wide (Nat.le_refl a) (Nat.le_succ i)).trans IN.out.out)
          clear heg
          go_wp2_with fail
          go_quiet (fail)
          have E2 := Lib.hid (EG.out.later (below_drewN (Below.refl wr.heap.size wr) nq))
          have F1 := Lib.hid (FG.out.trans (FrmA.of_below (below_drewN (Below.refl wr.heap.size wr) nq)))
          go_wp2_with fail
          refine ⟨⟨i + 1, G, by go_num, by omega, Or.inl (by omega), E2.out, S1.out, SM.out, OM.out, F1.out⟩, by (first | (simp [intOf]; done) | (simp [intOf]; omega) | (simp only [intOf]; omega))⟩
    · have hib : ¬ (i : Int) < (b : Int) := by omega
      have FIN : Hid (∃ E', EntB wr A N E' ∧ Sorted E' a b ∧ Same E E' a b ∧ Out E E' a b) := Lib.hid (by
        rcases hi2 with h | h
        · obtain rfl : i = b := by omega
          exact ⟨F, EN.out, SO.out, SA.out, OU.out⟩
        · subst h
          have e := one_same SA.out OU.out
          by_cases hab : b = a + 1
          · subst hab
            exact ⟨F, EN.out, SO.out, SA.out, OU.out⟩
          · refine ⟨F, EN.out, fun p q h1 h2 h3 => by omega, ?_, ?_⟩
            · rw [e]; exact Same.refl _ _ _
            · rw [e]; exact Out.refl _ _ _)
      go_wp2_with fail
      refine bodyPost_end (results_none rfl _ _ _) rfl ⟨rfl, FR.out, FIN.out⟩
end Go.Proofs.Ytkhdielfnphheaa
