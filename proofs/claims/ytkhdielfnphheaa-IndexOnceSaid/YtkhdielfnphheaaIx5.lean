/- Contract of the sort's symMerge. -/
import Derived.Test.YtkhdielfnphheaaIx4
namespace Go.Proofs.Ytkhdielfnphheaa
open Go.RowKit

theorem Mrg.congr {F G : Nat → Ent} {a m b : Nat} (h : Mrg F a m b) (e : ∀ k, a ≤ k → k < b → G k = F k) (h1 : a ≤ m) (h2 : m ≤ b) : Mrg G a m b := by
  refine ⟨fun i j p q r => ?_, fun i j p q r => ?_, fun i j p q r s => ?_⟩
  · rw [e i p (by omega), e j (by omega) (by omega)]; exact h.left i j p q r
  · rw [e i (by omega) (by omega), e j (by omega) r]; exact h.right i j p q r
  · rw [e i p (by omega), e j (by omega) s]; exact h.place i j p q r s
theorem Mrg.triv {E : Nat → Ent} {a m b : Nat} (h : Mrg E a m b) (c : ¬ (a < m ∧ m < b)) (h1 : a ≤ m) (h2 : m ≤ b) : Sorted E a b := by
  by_cases e : a = m
  · rw [e]; exact h.right
  · rw [show b = m by omega]; exact h.left
/-- where the search starts -/
structure Src (a m b mid s0 r0 : Nat) : Prop where
  mid1 : a < mid
  mid2 : mid < b
  start : mid < m ∧ s0 + b = mid + m ∧ r0 = mid ∨ m ≤ mid ∧ s0 = a ∧ r0 = m
theorem Src.ok {a m b mid s0 r0 : Nat} (h : Src a m b mid s0 r0) (h1 : a < m) (h2 : m < b) (h3 : a + b ≤ 2 * mid + 1) (h4 : 2 * mid ≤ a + b) : a ≤ s0 ∧ s0 ≤ r0 ∧ r0 ≤ m ∧ r0 ≤ mid ∧ mid + m ≤ s0 + b := by
  rcases h.start with ⟨p, q, r⟩ | ⟨p, q, r⟩
  · omega
  · omega
theorem cut_of {E : Nat → Ent} {a m b mid s0 r0 s t : Nat} (h : Src a m b mid s0 r0) (h1 : a < m) (h2 : m < b) (h3 : a + b ≤ 2 * mid + 1) (h4 : 2 * mid ≤ a + b) (s1 : s0 ≤ s) (s2 : s ≤ r0) (ht : t + s = mid + m)
    (lo : s0 < s → elt (E (s - 1)) (E t)) (hi : s < r0 → elt (E (t - 1)) (E s)) : Cut E a m b s t := by
  obtain ⟨k1, k2, k3, k4, k5⟩ := h.ok h1 h2 h3 h4
  refine ⟨by omega, by omega, by omega, by omega, fun p q => lo ?_, fun p q => hi ?_⟩
  · rcases h.start with ⟨c, d, e⟩ | ⟨c, d, e⟩ <;> omega
  · rcases h.start with ⟨c, d, e⟩ | ⟨c, d, e⟩ <;> omega
theorem Cut.mid {E : Nat → Ent} {a m b s t mid : Nat} (c : Cut E a m b s t) (ht : t + s = mid + m) : s + (t - m) = mid := by
  have := c.mt
  omega
set_option maxRecDepth 100000 in
set_option maxHeartbeats 6400000 in
theorem merge_gen (A N cap : Nat) (E : Nat → Ent) (a m b : Nat) (w : World) (h : EntB w A N E) (hN : N ≤ 4000000000000) (hM : Mrg E a m b) (hb : b ≤ N) (hab : a + 1 < m) (hmb : m + 1 < b)
    (ih : ∀ (a' m' b' : Nat) (E' : Nat → Ent) (W : World), b' - a' < b - a → a' < m' → m' < b' → b' ≤ N → EntB W A N E' → Mrg E' a' m' b' → Calls Try.prog 74 #[.slice (some ⟨A, 0, none⟩) N cap, .int .i64 a', .int .i64 m', .int .i64 b', cmpV] W (SortPost A N a' b' E' W)) :
    Calls Try.prog 74 #[.slice (some ⟨A, 0, none⟩) N cap, .int .i64 a, .int .i64 m, .int .i64 b, cmpV] w (SortPost A N a b E w) := by
  have H := Lib.hid h
  have MM := Lib.hid hM
  have IH := Lib.hid ih
  clear h hM ih
  have m0 : (m : Int) - (a : Int) = ((m - a : Nat) : Int) := by omega
  obtain ⟨ma, hma⟩ : ∃ x, x = m - a := ⟨_, rfl⟩
  rw [← hma] at m0
  have m3 : 1 < ma := by omega
  have m2 : ((ma : Int) == 1) = false := by simp; omega
  have m4 : ma ≤ 4000000000000 := by omega
  have b0 : (b : Int) - (m : Int) = ((b - m : Nat) : Int) := by omega
  obtain ⟨bm, hbm⟩ : ∃ x, x = b - m := ⟨_, rfl⟩
  rw [← hbm] at b0
  have b3 : 1 < bm := by omega
  have b2 : ((bm : Int) == 1) = false := by simp; omega
  have b4 : bm ≤ 4000000000000 := by omega
  obtain ⟨y, hy⟩ : ∃ y, y = a + b := ⟨_, rfl⟩
  have ys : (a : Int) + (b : Int) = (y : Int) := by omega
  have yw : IntKind.i64.wrap ((a : Int) + (b : Int)) = (y : Int) := by rw [ys]; exact IntWalk.i64_in _ (by omega)
  obtain ⟨v1, v2, v3⟩ := half_run y (by omega)
  obtain ⟨mid, hmid⟩ : ∃ c, c = y / 2 := ⟨_, rfl⟩
  rw [← hmid] at v2 v3
  have q3 : a + b ≤ 2 * mid + 1 := by omega
  have q4 : 2 * mid ≤ a + b := by omega
  have yI : (y : Int) ≤ 8000000000000 := by omega
  obtain ⟨n, hn⟩ : ∃ n, n = mid + m := ⟨_, rfl⟩
  have ni : (mid : Int) + (m : Int) = (n : Int) := by omega
  obtain ⟨p, hp⟩ : ∃ p, p + 1 = n := ⟨n - 1, by omega⟩
  have pi : (n : Int) - 1 = (p : Int) := by omega
  have n2 : n ≤ 8000000000000 := by omega
  have NN := Lib.hid hn
  have PP := Lib.hid hp
  obtain ⟨s0, r0, SR⟩ : ∃ s0 r0, Src a m b mid s0 r0 := by
    by_cases c : mid < m
    · exact ⟨mid + m - b, mid, by omega, by omega, Or.inl ⟨c, by omega, rfl⟩⟩
    · exact ⟨a, m, by omega, by omega, Or.inr ⟨by omega, rfl, rfl⟩⟩
  obtain ⟨k1, k2, k3, k4, k5⟩ := SR.ok (by omega) (by omega) q3 q4
  have SRH := Lib.hid SR
  have FUL : Hid (∀ (s t : Nat) (wr : World), s0 ≤ s → s ≤ r0 → t + s = mid + m → (s0 < s → elt (E (s - 1)) (E t)) → (s < r0 → elt (E (t - 1)) (E s)) → Cut E a m b s t ∧ s + (t - m) = mid) := Lib.hid (fun s t wr s1 s2 ht lo hi => by
    have C := cut_of SRH.out (by omega) (by omega) q3 q4 s1 s2 ht lo hi
    exact ⟨C, C.mid ht⟩)
  clear hma hbm hy hmid hn hp
  go_enter Try.func74, Try.ntmps74
  have CS : ((mid : Int) < (m : Int) ∧ (n : Int) - (b : Int) = (s0 : Int) ∧ Hid (r0 = mid)) ∨ (¬ (mid : Int) < (m : Int) ∧ Hid (s0 = a) ∧ Hid (r0 = m)) := by
    rcases SR.start with ⟨c1, c2, c3⟩ | ⟨c1, c2, c3⟩
    · exact Or.inl ⟨by omega, by have := NN.out; omega, Lib.hid c3⟩
    · exact Or.inr ⟨by omega, Lib.hid c2, Lib.hid c3⟩
  clear SR
  go_upto_if 140 with fail
  go_cut [20, 21] (fun s r wx => s = .int .i64 s0 ∧ r = .int .i64 r0 ∧ w = wx)
  case first =>
    rcases CS with ⟨cI, sI, S3⟩ | ⟨cI, S2, S3⟩
    · go_wp2_with fail
      go_meet
      exact ⟨rfl, by rw [S3.out], rfl⟩
    · go_wp2_with fail
      go_meet
      exact ⟨by rw [S2.out], by rw [S3.out], rfl⟩
  case rest =>
    obtain ⟨rfl, rfl, rfl⟩ := hcut
    clear CS
    go_wp2_with fail
    go_loopw [20, 21] (fun x y wr => ∃ i j : Nat, x = .int .i64 i ∧ y = .int .i64 j ∧ (s0 ≤ i ∧ i ≤ j ∧ j ≤ r0) ∧ (s0 < i → elt (E (i - 1)) (E (n - i))) ∧ (j < r0 → elt (E (p - j)) (E j)) ∧ EntB wr A N E ∧ FrmA w wr A) (fun x y _ => (intOf y).toNat - (intOf x).toNat)
    case atStart => exact ⟨s0, r0, rfl, rfl, ⟨Nat.le_refl _, by omega, Nat.le_refl _⟩, fun h => by omega, fun h => by omega, H.out, FrmA.refl _ _⟩
    case round =>
      obtain ⟨i, j, rfl, rfl, ⟨i1, i2, i3⟩, lo, hi, hen, hfr⟩ := hrel
      have FR := Lib.hid hfr
      have EN := Lib.hid hen
      have LO := Lib.hid lo
      have HI := Lib.hid hi
      clear hfr lo hi
      by_cases hlt : i < j
      · have hij : (i : Int) < (j : Int) := by omega
        obtain ⟨x, hx⟩ : ∃ x, x = i + j := ⟨_, rfl⟩
        have xs : (i : Int) + (j : Int) = (x : Int) := by omega
        have xw : IntKind.i64.wrap ((i : Int) + (j : Int)) = (x : Int) := by rw [xs]; exact IntWalk.i64_in _ (by omega)
        obtain ⟨u1, u2, u3⟩ := half_run x (by omega)
        obtain ⟨c, hc⟩ : ∃ c, c = x / 2 := ⟨_, rfl⟩
        rw [← hc] at u2 u3
        have cc1 : i ≤ c ∧ c < j := by omega
        obtain ⟨c11, c12⟩ := cc1
        have xb : x ≤ 8000000000000 := by omega
        have xI : (x : Int) ≤ 8000000000000 := by omega
        clear hx hc
        obtain ⟨d, hd⟩ : ∃ d, d = p - c := ⟨_, rfl⟩
        have dd1 : m ≤ d ∧ d < b ∧ d = n - (c + 1) := by
          have := NN.out
          have := PP.out
          omega
        obtain ⟨dm, db, dn⟩ := dd1
        have STP : Hid ((E d).1 < (E c).1 → c < r0 → elt (E (p - c)) (E c)) := Lib.hid (fun h _ => by rw [← hd]; exact elt_lt h)
        have STO : Hid (¬ (E d).1 < (E c).1 → s0 < c + 1 → elt (E (c + 1 - 1)) (E (n - (c + 1)))) := Lib.hid (fun h _ => by rw [← dn]; exact elt_of h (MM.out.place c d (by omega) (by omega) dm db))
        clear dn
        have pcd : (p : Int) - (c : Int) = (d : Int) := by have := NN.out; have := PP.out; omega
        have wq : IntKind.i64.wrap ((p : Int) - (c : Int)) = (p : Int) - (c : Int) := IntWalk.i64_in _ (by omega)
        have wq1 : (0 : Int) ≤ (p : Int) - (c : Int) := by omega
        have wq2 : (p : Int) - (c : Int) < (N : Int) := by omega
        have wq3 : ((p : Int) - (c : Int)).toNat = d := by omega
        have wqc : (0 : Int) ≤ (p : Int) - (c : Int) ∧ (p : Int) - (c : Int) < (N : Int) := by omega
        have wqa : (c : Int) ≤ (p : Int) := by omega
        have wqb : c ≤ p := by omega
        have hcN : c < N := by omega
        have hdN : d < N := by omega
        have hcI : (c : Int) < (N : Int) := by omega
        have hdI : (d : Int) < (N : Int) := by omega
        have hc0 : (0 : Int) ≤ (c : Int) := by omega
        have hd0 : (0 : Int) ≤ (d : Int) := by omega
        have C0 : C4 wr A d c (E d).1 (E d).2 (E c).1 (E c).2 := hen.two hdN hcN
        have CM := Lib.hid (fun W => cmp_any (E d).1 (E d).2 (E c).1 (E c).2 W)
        have CN := cmp_neg (E d).1 (E c).1
        obtain ⟨x0, hx0⟩ : ∃ x, x = (E d).1 := ⟨_, rfl⟩
        obtain ⟨y0, hy0⟩ : ∃ x, x = (E d).2 := ⟨_, rfl⟩
        obtain ⟨x1, hx1⟩ : ∃ x, x = (E c).1 := ⟨_, rfl⟩
        obtain ⟨y1, hy1⟩ : ∃ x, x = (E c).2 := ⟨_, rfl⟩
        rw [← hx0, ← hx1] at STP STO CM CN C0
        rw [← hy0, ← hy1] at CM C0
        obtain ⟨cv, hcv⟩ : ∃ c, c = cmpI x0 x1 := ⟨_, rfl⟩
        rw [← hcv] at CM CN
        clear hx0 hy0 hx1 hy1 hcv hen hd
        have C0H := Lib.hid C0
        have CC := C0
        have k8 : Below wr.heap.size wr wr := Below.refl _ _
        clear pcd
        go_wp2_with fail
        go_region_held3 (fun w' => w'.cell? ⟨A, d * 2, none⟩ = some (.int .i64 x0) ∧ w'.cell? ⟨A, d * 2 + 1, none⟩ = some (.int .i64 y0) ∧ w'.cell? ⟨A, c * 2, none⟩ = some (.int .i64 x1) ∧ w'.cell? ⟨A, c * 2 + 1, none⟩ = some (.int .i64 y1))
          (first | with_reducible exact CC.cells | with_reducible exact CC.drew.cells)
          (first
            | (go_at_call 52; (with_reducible refine (CM.out wr.drew).mono ?_); rintro e v1 ⟨rfl, hb⟩; have k8 : Below wr.heap.size wr v1 := bel_drew hb; have CC := C0H.out.later k8))
        all_goals
          have E1 := Lib.hid (EN.out.later k8)
          have F1 := Lib.hid (FR.out.trans (FrmA.of_below k8))
          by_cases hc : x0 < x1
          · have dc : decide (cv < 0) = true := decide_eq_true (CN.2 hc)
            have hc0 : cv < 0 := CN.2 hc
            have hc1 : ¬ 0 ≤ cv := by omega
            have dd : (!decide (x0 < x1)) = false := by rw [decide_eq_true hc]; rfl
            have S1 := Lib.hid (STP.out hc)
            clear CC STP STO CN
            go_wp2_with fail
            all_goals first
              | exact Bool.noConfusion (dd.symm.trans (by assumption) : false = true)
              | exact ⟨⟨i, c, rfl, rfl, ⟨i1, c11, by omega⟩, LO.out, S1.out, E1.out, F1.out⟩, by (first | (simp [intOf]; done) | (simp [intOf]; omega) | (simp only [intOf]; omega))⟩
          · have dc : decide (cv < 0) = false := decide_eq_false (fun h => hc (CN.1 h))
            have hc0 : ¬ cv < 0 := fun h => hc (CN.1 h)
            have hc1 : 0 ≤ cv := by omega
            have dd : (!decide (x0 < x1)) = true := by rw [decide_eq_false hc]; rfl
            have S1 := Lib.hid (STO.out (by omega))
            clear CC STP STO CN
            go_wp2_with fail
            all_goals first
              | exact Bool.noConfusion (dd.symm.trans (by assumption) : true = false)
              | exact ⟨⟨c + 1, j, by go_num, rfl, ⟨by omega, by omega, i3⟩, S1.out, HI.out, E1.out, F1.out⟩, by (first | (simp [intOf]; done) | (simp [intOf]; omega) | (simp only [intOf]; omega))⟩
      · have hij : ¬ (i : Int) < (j : Int) := by omega
        obtain rfl : i = j := by omega
        obtain ⟨t, ht⟩ : ∃ t, t = n - i := ⟨_, rfl⟩
        have hts : t + i = mid + m := by have := NN.out; omega
        have ti : (n : Int) - (i : Int) = (t : Int) := by have := NN.out; omega
        obtain ⟨CU, CMm⟩ := FUL.out i t wr i1 i3 hts (by rw [ht]; exact LO.out) (by rw [show t - 1 = p - i by have := PP.out; have := NN.out; omega]; exact HI.out)
        have im : i ≤ m := CU.sm
        have mt : m ≤ t := CU.mt
        have tb : t ≤ b := CU.tb
        have ai : a ≤ i := CU.as
        have CUH := Lib.hid CU
        have CMH := Lib.hid CMm
        have TN := Lib.hid hts
        obtain ⟨R, hR⟩ : ∃ R, R = rotF E i m t := ⟨_, rfl⟩
        have RH := Lib.hid hR
        have ROT : Hid (∀ W, EntB W A N E → i < m → m < t → Calls Try.prog 85 #[.slice (some ⟨A, 0, none⟩) N cap, .int .i64 i, .int .i64 m, .int .i64 t, cmpV] W (ArrPost A N R W)) := Lib.hid (fun W hW h1 h2 => by
          rw [hR]
          exact rotate_any A N cap E i m t cmpV W hW hN h1 h2 (by omega))
        have RE : Hid (¬ (i < m ∧ m < t) → R = E) := Lib.hid (fun h => by
          rw [hR]
          by_cases e : i = m
          · rw [e]; exact rot_none2 E m t
          · rw [show t = m by omega]; exact rot_none E i m)
        have LOW : Hid (Mrg R a i mid) := Lib.hid (by rw [hR, ← CMm]; exact Cut.low MM.out CU)
        have HIGH : Hid (∀ F1 : Nat → Ent, Out R F1 a mid → Mrg F1 mid t b) := Lib.hid (fun F1 ho => by
          have h1 : Mrg R mid t b := by rw [hR, ← CMm]; exact Cut.high MM.out CU
          exact h1.congr (fun k hk _ => ho k (Or.inr hk)) (by omega) tb)
        have DONE : Hid (∀ E1 E2 : Nat → Ent, Sorted E1 a mid → Same R E1 a mid → Out R E1 a mid → Sorted E2 mid b → Same E1 E2 mid b → Out E1 E2 mid b → Sorted E2 a b ∧ Same E E2 a b ∧ Out E E2 a b) := Lib.hid (fun E1 E2 => by
          have h1 := Cut.done (E1 := E1) (E2 := E2) MM.out CU
          rw [← hR, CMm] at h1
          exact h1)
        have m1 : a < mid := SRH.out.mid1
        have m2 : mid < b := SRH.out.mid2
        have midt : mid ≤ t := by omega
        have imid : i ≤ mid := by omega
        have IH1 : Hid (∀ W, EntB W A N R → a < i → i < mid → Calls Try.prog 74 #[.slice (some ⟨A, 0, none⟩) N cap, .int .i64 a, .int .i64 i, .int .i64 mid, cmpV] W (SortPost A N a mid R W)) := Lib.hid (fun W hW q1 q2 => IH.out a i mid R W (by omega) q1 q2 (by omega) hW LOW.out)
        have IH2 : Hid (∀ W F1, EntB W A N F1 → Out R F1 a mid → mid < t → t < b → Calls Try.prog 74 #[.slice (some ⟨A, 0, none⟩) N cap, .int .i64 mid, .int .i64 t, .int .i64 b, cmpV] W (SortPost A N mid b F1 W)) := Lib.hid (fun W F1 hW ho q1 q2 => IH.out mid t b F1 W (by omega) q1 q2 (by omega) hW (HIGH.out F1 ho))
        clear ht hR CU CMm hts hen
        obtain ⟨b1, hb1⟩ : ∃ b1 : Bool, b1 = decide (i < m ∧ m < t) := ⟨_, rfl⟩
        have B1 := Lib.hid hb1
        clear hb1
        as_aux_lemma =>
        go_upto_region 39 with fail
        go_cut [24, 185] (fun s z wx => s = .int .i64 t ∧ z = .bool b1 ∧ wr = wx)
        case first =>
          by_cases q1 : i < m
          · have q1I : (i : Int) < (m : Int) := by omega
            by_cases q2 : m < t
            · have q2I : (m : Int) < (t : Int) := by omega
              have e1 : b1 = true := by rw [B1.out]; exact decide_eq_true ⟨q1, q2⟩
              go_wp2_with fail
              go_meet
              exact ⟨rfl, by rw [e1], rfl⟩
            · have q2I : ¬ (m : Int) < (t : Int) := by omega
              have e1 : b1 = false := by rw [B1.out]; exact decide_eq_false (fun h => q2 h.2)
              go_wp2_with fail
              go_meet
              exact ⟨rfl, by rw [e1], rfl⟩
          · have q1I : ¬ (i : Int) < (m : Int) := by omega
            have e1 : b1 = false := by rw [B1.out]; exact decide_eq_false (fun h => q1 h.1)
            go_wp2_with fail
            go_meet
            exact ⟨rfl, by rw [e1], rfl⟩
        case rest =>
          obtain ⟨rfl, rfl, rfl⟩ := hcut
          go_upto_if 185 with fail
          go_cut [24] (fun s wx => s = .int .i64 t ∧ EntB wx A N R ∧ FrmA w wx A)
          case first =>
            cases b1 with
            | true =>
              have q := of_decide_eq_true B1.out.symm
              go_wp2_with fail
              refine (ROT.out wr EN.out q.1 q.2).mono ?_
              rintro e w2 ⟨rfl, hen2, hfr2⟩
              go_wp2_with fail
              go_meet
              exact ⟨rfl, hen2, FR.out.trans hfr2⟩
            | false =>
              have q := of_decide_eq_false B1.out.symm
              go_wp2_with fail
              go_meet
              exact ⟨rfl, by rw [RE.out q]; exact EN.out, FR.out⟩
          case rest =>
            obtain ⟨rfl, hen2, hfr2⟩ := hcut
            have EN3 := Lib.hid hen2
            have FR3 := Lib.hid hfr2
            obtain ⟨b2, hb2⟩ : ∃ b2 : Bool, b2 = decide (a < i ∧ i < mid) := ⟨_, rfl⟩
            have B2 := Lib.hid hb2
            clear hb2 hen2 hfr2 B1
            as_aux_lemma =>
            go_upto_region 41 with fail
            go_cut [24, 199] (fun s z wx => s = .int .i64 t ∧ z = .bool b2 ∧ wc = wx)
            case first =>
              by_cases q1 : a < i
              · have q1I : (a : Int) < (i : Int) := by omega
                by_cases q2 : i < mid
                · have q2I : (i : Int) < (mid : Int) := by omega
                  have e1 : b2 = true := by rw [B2.out]; exact decide_eq_true ⟨q1, q2⟩
                  go_wp2_with fail
                  go_meet
                  exact ⟨rfl, by rw [e1], rfl⟩
                · have q2I : ¬ (i : Int) < (mid : Int) := by omega
                  have e1 : b2 = false := by rw [B2.out]; exact decide_eq_false (fun h => q2 h.2)
                  go_wp2_with fail
                  go_meet
                  exact ⟨rfl, by rw [e1], rfl⟩
              · have q1I : ¬ (a : Int) < (i : Int) := by omega
                have e1 : b2 = false := by rw [B2.out]; exact decide_eq_false (fun h => q1 h.1)
                go_wp2_with fail
                go_meet
                exact ⟨rfl, by rw [e1], rfl⟩
            case rest =>
              obtain ⟨rfl, rfl, rfl⟩ := hcut
              as_aux_lemma =>
              go_upto_if 199 with fail
              go_cut [24] (fun s wx => s = .int .i64 t ∧ FrmA w wx A ∧ ∃ F1, EntB wx A N F1 ∧ Sorted F1 a mid ∧ Same R F1 a mid ∧ Out R F1 a mid)
              case first =>
                cases b2 with
                | true =>
                  have q := of_decide_eq_true B2.out.symm
                  go_wp2_with fail
                  refine (IH1.out wc EN3.out q.1 q.2).mono ?_
                  rintro e w2 ⟨rfl, hfr2, hso⟩
                  go_wp2_with fail
                  go_meet
                  exact ⟨rfl, FR3.out.trans hfr2, hso⟩
                | false =>
                  have q := of_decide_eq_false B2.out.symm
                  go_wp2_with fail
                  go_meet
                  exact ⟨rfl, FR3.out, R, EN3.out, LOW.out.triv q ai imid, Same.refl _ _ _, Out.refl _ _ _⟩
              case rest =>
                obtain ⟨rfl, hfr2, F1, hen2, so1, sa1, ou1⟩ := hcut
                have EN4 := Lib.hid hen2
                have FR4 := Lib.hid hfr2
                have SO1 := Lib.hid so1
                have SA1 := Lib.hid sa1
                have OU1 := Lib.hid ou1
                clear hen2 hfr2 so1 sa1 ou1 B2
                obtain ⟨b3, hb3⟩ : ∃ b3 : Bool, b3 = decide (mid < t ∧ t < b) := ⟨_, rfl⟩
                have B3 := Lib.hid hb3
                clear hb3
                as_aux_lemma =>
                go_upto_region 43 with fail
                go_cut [24, 213] (fun s z wx => s = .int .i64 t ∧ z = .bool b3 ∧ wc = wx)
                case first =>
                  by_cases q1 : mid < t
                  · have q1I : (mid : Int) < (t : Int) := by omega
                    by_cases q2 : t < b
                    · have q2I : (t : Int) < (b : Int) := by omega
                      have e1 : b3 = true := by rw [B3.out]; exact decide_eq_true ⟨q1, q2⟩
                      go_wp2_with fail
                      go_meet
                      exact ⟨rfl, by rw [e1], rfl⟩
                    · have q2I : ¬ (t : Int) < (b : Int) := by omega
                      have e1 : b3 = false := by rw [B3.out]; exact decide_eq_false (fun h => q2 h.2)
                      go_wp2_with fail
                      go_meet
                      exact ⟨rfl, by rw [e1], rfl⟩
                  · have q1I : ¬ (mid : Int) < (t : Int) := by omega
                    have e1 : b3 = false := by rw [B3.out]; exact decide_eq_false (fun h => q1 h.1)
                    go_wp2_with fail
                    go_meet
                    exact ⟨rfl, by rw [e1], rfl⟩
                case rest =>
                  obtain ⟨rfl, rfl, rfl⟩ := hcut
                  cases b3 with
                  | true =>
                    have q := of_decide_eq_true B3.out.symm
                    go_wp2_with fail
                    refine (IH2.out wc F1 EN4.out OU1.out q.1 q.2).mono ?_
                    rintro e w2 ⟨rfl, hfr2, F2, hen2, so2, sa2, ou2⟩
                    go_wp2_with fail
                    exact bodyPost_end (results_none rfl _ _ _) rfl ⟨rfl, FR4.out.trans hfr2, F2, hen2, DONE.out F1 F2 SO1.out SA1.out OU1.out so2 sa2 ou2⟩
                  | false =>
                    have q := of_decide_eq_false B3.out.symm
                    have so2 := (HIGH.out F1 OU1.out).triv q midt tb
                    go_wp2_with fail
                    exact bodyPost_end (results_none rfl _ _ _) rfl ⟨rfl, FR4.out, F1, EN4.out, DONE.out F1 F1 SO1.out SA1.out OU1.out so2 (Same.refl _ _ _) (Out.refl _ _ _)⟩
theorem symmerge_any (A N cap : Nat) (hN : N ≤ 4000000000000) : ∀ (d a m b : Nat) (E : Nat → Ent) (w : World), b - a ≤ d → a < m → m < b → b ≤ N → EntB w A N E → Mrg E a m b →
    Calls Try.prog 74 #[.slice (some ⟨A, 0, none⟩) N cap, .int .i64 a, .int .i64 m, .int .i64 b, cmpV] w (SortPost A N a b E w) := by
  intro d
  induction d with
  | zero => intro a m b E w h0 h1 h2 h3 h h4; omega
  | succ d ih =>
    intro a m b E w h0 h1 h2 h3 h hM
    by_cases e1 : m = a + 1
    · subst e1
      exact merge_left A N cap E a b w h hN hM h3 h2
    · by_cases e2 : b = m + 1
      · subst e2
        exact merge_right A N cap E a m w h hN hM h3 (by omega)
      · exact merge_gen A N cap E a m b w h hN hM h3 (by omega) (by omega) (fun a' m' b' E' W k1 k2 k3 k4 k5 k6 => ih a' m' b' E' W (by omega) k2 k3 k4 k5 k6)
end Go.Proofs.Ytkhdielfnphheaa
