/- Contract of the sort's stable sort. -/
import Derived.Test.YtkhdielfnphheaaIx5
import Derived.Test.YtkhdielfnphheaaSrt4
namespace Go.Proofs.Ytkhdielfnphheaa
open Go.RowKit

set_option maxRecDepth 100000 in
set_option maxHeartbeats 6400000 in
theorem stable_any (A N cap : Nat) (E : Nat → Ent) (w : World) (h : EntB w A N E) (hN : N ≤ 4000000000000) (u : Ups E N) :
    Calls Try.prog 61 #[.slice (some ⟨A, 0, none⟩) N cap, .int .i64 N, cmpV] w (SortPost A N 0 N E w) := by
  have H := Lib.hid h
  have U := Lib.hid u
  clear h u
  have INS := Lib.hid (fun (F : Nat → Ent) (a b : Nat) W (hW : EntB W A N F) => insertion_any A N cap F a b W hW hN)
  have SYM := Lib.hid (symmerge_any A N cap hN)
  go_enter Try.func61, Try.ntmps61
  go_wp2_with fail
  go_loopw [7, 8] (fun x y wr => ∃ (a b : Nat) (F : Nat → Ent), x = .int .i64 a ∧ y = .int .i64 b ∧ b = a + 20 ∧ a ≤ N ∧ EntB wr A N F ∧ Ph1 E F N 20 a ∧ FrmA w wr A) (fun x _ _ => N - (intOf x).toNat)
  case atStart => exact ⟨0, 20, E, rfl, rfl, rfl, by omega, H.out, Ph1.start _ _ _ (by omega), FrmA.refl _ _⟩
  case round =>
    obtain ⟨a, b, F, rfl, rfl, hb, ha, hen, hph, hfr⟩ := hrel
    have FR := Lib.hid hfr
    have EN := Lib.hid hen
    have PH := Lib.hid hph
    have HB := Lib.hid hb
    clear hfr hen hph
    by_cases hlt : b ≤ N
    · have hI : (b : Int) ≤ (N : Int) := by omega
      have I1 := Lib.hid (INS.out F a b wr EN.out ha hlt (fun p q h1 h2 h3 => PH.out.ups U.out p q h1 h2 (by omega)))
      have ab : a < b := by omega
      obtain ⟨b2, hb2⟩ : ∃ b2, b2 = b + 20 := ⟨_, rfl⟩
      have bI : (b : Int) + 20 = (b2 : Int) := by omega
      have B2 := Lib.hid hb2
      have b2s : b2 ≤ 4000000000020 := by omega
      clear hb hb2
      go_wp2_with fail
      refine I1.out.mono ?_
      rintro e w2 ⟨rfl, hfr2, F2, hen2, so2, sa2, ou2⟩
      have EN2 := Lib.hid hen2
      have FR2 := Lib.hid (FR.out.trans hfr2)
      rw [HB.out] at so2 sa2 ou2
      have PH2 : Hid (Ph1 E F2 N 20 b) := Lib.hid (by rw [HB.out]; exact PH.out.next so2 sa2 ou2)
      clear hen2 hfr2 so2 sa2 ou2
      go_wp2_with fail
      exact ⟨⟨b, b2, F2, rfl, by go_num, B2.out, hlt, EN2.out, PH2.out, FR2.out⟩, by (first | (simp [intOf]; done) | (simp [intOf]; omega) | (simp only [intOf]; omega))⟩
    · have hI : ¬ (b : Int) ≤ (N : Int) := by omega
      have I1 := Lib.hid (INS.out F a N wr EN.out ha (Nat.le_refl N) (fun p q h1 h2 h3 => PH.out.ups U.out p q h1 h2 h3))
      have hbN : N < a + 20 := by omega
      clear hb
      go_wp2_with fail
      refine I1.out.mono ?_
      rintro e w2 ⟨rfl, hfr2, F2, hen2, so2, sa2, ou2⟩
      have EN2 := Lib.hid hen2
      have FR2 := Lib.hid (FR.out.trans hfr2)
      have PH2 := Lib.hid (PH.out.done ha hbN so2 sa2 ou2)
      clear hen2 hfr2 so2 sa2 ou2
      go_wp2_with fail
      clear I1
      go_loopw [6] (fun x wq => ∃ (s : Nat) (F : Nat → Ent), x = .int .i64 s ∧ 0 < s ∧ s ≤ 12000000000000 ∧ EntB wq A N F ∧ Ph2 E F N s 0 ∧ FrmA w wq A) (fun x _ => N - (intOf x).toNat)
      case atStart => exact ⟨20, F2, rfl, by omega, by omega, EN2.out, PH2.out, FR2.out⟩
      case round =>
        obtain ⟨s, G, rfl, s0, s1, heg, hpg, hfg⟩ := hrel
        have EG := Lib.hid heg
        have FG := Lib.hid hfg
        have PG := Lib.hid hpg
        clear hfg heg hpg
        by_cases hs : s < N
        · have sI : (s : Int) < (N : Int) := by omega
          obtain ⟨t, ht⟩ : ∃ t, t = 2 * s := ⟨_, rfl⟩
          have tI : (2 : Int) * (s : Int) = (t : Int) := by omega
          have tJ : (s : Int) * (2 : Int) = (t : Int) := by omega
          have ts : t ≤ 8000000000000 := by omega
          have T := Lib.hid ht
          clear ht
          go_wp2_with fail
          go_loopw [7, 8] (fun x y wp => ∃ (a b : Nat) (F : Nat → Ent), x = .int .i64 a ∧ y = .int .i64 b ∧ b = a + t ∧ a ≤ N ∧ EntB wp A N F ∧ Ph2 E F N s a ∧ FrmA w wp A) (fun x _ _ => N - (intOf x).toNat)
          case atStart => exact ⟨0, t, G, rfl, rfl, by omega, by omega, EG.out, PG.out, FG.out⟩
          case round =>
            obtain ⟨a, b, F, rfl, rfl, hb, ha, hen, hph, hfr⟩ := hrel
            have FR := Lib.hid hfr
            have EN := Lib.hid hen
            have PH := Lib.hid hph
            have HB := Lib.hid hb
            clear hfr hen hph
            obtain ⟨m, hm⟩ : ∃ m, m = a + s := ⟨_, rfl⟩
            have mI : (a : Int) + (s : Int) = (m : Int) := by omega
            have HM := Lib.hid hm
            by_cases hlt : b ≤ N
            · have hI : (b : Int) ≤ (N : Int) := by omega
              have e0 : a + 2 * s ≤ N := by have := T.out; omega
              have S1 := Lib.hid (SYM.out (b - a) a m b F wr (Nat.le_refl _) (by omega) (by have := T.out; omega) hlt EN.out (by
                have e1 : b = a + 2 * s := by have := T.out; omega
                rw [HM.out]
                exact (PH.out.mrg U.out (b := b) (by omega) hlt (Or.inr e1) (Or.inr e1)).2.2))
              have ab : a < b := by have := T.out; omega
              obtain ⟨b2, hb2⟩ : ∃ b2, b2 = b + t := ⟨_, rfl⟩
              have bI : (b : Int) + (t : Int) = (b2 : Int) := by omega
              have B2 := Lib.hid hb2
              have b2s : b2 ≤ 12000000000000 := by omega
              have ms : m ≤ 12000000000000 := by omega
              clear hb hb2 hm
              go_wp2_with fail
              refine S1.out.mono ?_
              rintro e w3 ⟨rfl, hfr2, F3, hen2, so2, sa2, ou2⟩
              have EN3 := Lib.hid hen2
              have FR3 := Lib.hid (FR.out.trans hfr2)
              have PH3 : Hid (Ph2 E F3 N s b) := Lib.hid (by
                have e1 : b = a + 2 * s := by rw [HB.out, T.out]
                rw [e1] at so2 sa2 ou2 ⊢
                exact PH.out.next U.out e0 so2 sa2 ou2)
              clear hen2 hfr2 so2 sa2 ou2 S1
              go_wp2_with fail
              exact ⟨⟨b, b2, F3, rfl, by go_num, B2.out, hlt, EN3.out, PH3.out, FR3.out⟩, by (first | (simp [intOf]; done) | (simp [intOf]; omega) | (simp only [intOf]; omega))⟩
            · have hI : ¬ (b : Int) ≤ (N : Int) := by omega
              have e0 : N < a + 2 * s := by have := T.out; omega
              have ms : m ≤ 12000000000000 := by omega
              by_cases hm2 : m < N
              · have hJ : (m : Int) < (N : Int) := by omega
                have S1 := Lib.hid (SYM.out (N - a) a m N F wr (Nat.le_refl _) (by omega) hm2 (Nat.le_refl N) EN.out (by
                  rw [HM.out]
                  exact (PH.out.mrg U.out (b := N) (by omega) (Nat.le_refl N) (Or.inl rfl) (Or.inl (by omega))).2.2))
                have e2 : a + s < N := by omega
                clear hb hm
                go_wp2_with fail
                refine S1.out.mono ?_
                rintro e w3 ⟨rfl, hfr2, F3, hen2, so2, sa2, ou2⟩
                have EN3 := Lib.hid hen2
                have FR3 := Lib.hid (FR.out.trans hfr2)
                have PH3 : Hid (Ph2 E F3 N t 0) := Lib.hid (by
                  rw [T.out]
                  exact PH.out.last_mrg U.out e2 e0 so2 sa2 ou2)
                clear hen2 hfr2 so2 sa2 ou2 S1
                have st : s < t := by have := T.out; omega
                go_wp2_with fail
                exact ⟨⟨t, F3, by go_num, by omega, by omega, EN3.out, PH3.out, FR3.out⟩, by (first | (simp [intOf]; done) | (simp [intOf]; omega) | (simp only [intOf]; omega))⟩
              · have hJ : ¬ (m : Int) < (N : Int) := by omega
                have PH3 : Hid (Ph2 E F N t 0) := Lib.hid (by
                  rw [T.out]
                  exact PH.out.last_none ha (by omega))
                have st : s < t := by have := T.out; omega
                clear hb hm
                go_wp2_with fail
                exact ⟨⟨t, F, by go_num, by omega, by omega, EN.out, PH3.out, FR.out⟩, by (first | (simp [intOf]; done) | (simp [intOf]; omega) | (simp only [intOf]; omega))⟩
        · have sI : ¬ (s : Int) < (N : Int) := by omega
          have DN := Lib.hid (PG.out.all (by omega))
          go_wp2_with fail
          exact bodyPost_end (results_none rfl _ _ _) rfl ⟨rfl, FG.out, G, EG.out, DN.out⟩
end Go.Proofs.Ytkhdielfnphheaa
