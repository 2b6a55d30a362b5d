/- Contract of the setter's letter. -/
import Derived.Test.YthglgempbdaikaaGj3
namespace Go.Proofs.Ythglgempbdaikaa
open Go.RowKit

theorem FrmS.cell {w w' : World} {S g k : Nat} {u : Value} (h : FrmS w w' S) (hg : FreS w S g) (hu : w.cell? ⟨g, k, none⟩ = some u) : w'.cell? ⟨g, k, none⟩ = some u := (World.cell?_of_block (h.block g hg).1).trans hu
theorem SetS.fre {w : World} {S Bo : Nat} {e : SE} {pen : Int} {out : List (Nat → Int)} (h : SetS w S Bo e pen out) {o : Obj} : FreS (w.alloc o) S w.heap.size := by
  obtain ⟨p, n, c, h1, h2, h3, h4⟩ := h
  refine ⟨by simp, by have := h1.1; omega, fun v hv hh => ?_⟩
  rw [cell_alloc o (h1.2.2 4 _ rfl)] at hv
  obtain rfl := Option.some.inj hv
  have := (h4.lt _ hh).2
  omega
theorem may_parts {g : Gl} (h : mayG g = true) : (33 ≤ g.code ∧ g.code ≤ 126) ∧ (0 ≤ g.adv ∧ g.adv ≤ 8388607) ∧ g.n ≤ 200 ∧ chk g.F g.n = 0 := by
  unfold mayG at h
  have h := of_decide_eq_true h
  have h2 := h.2.2
  unfold checkE at h2
  split at h2
  · cases h2
  · exact ⟨h.1, h.2.1, by omega, h2⟩
def LettPost (S Bo : Nat) (e : SE) (r : RunS) (g : Gl) (w : World) (en : Ending) (w' : World) : Prop :=
  en = .returned (.int .i64 (lettE e r g)) ∧ FrmS w w' S ∧ (lettE e r g = 0 → SetS w' S Bo e (lettR e r g).pen (lettR e r g).out)
set_option maxRecDepth 100000 in
set_option maxHeartbeats 6400000 in
theorem letter_any (S Bo : Nat) (e : SE) (r : RunS) (g : Gl) (p : Option Addr) (c : Nat) (w : World) (hS : SetS w S Bo e r.pen r.out) (hl : r.out.length ≤ 200) (hp : 0 ≤ r.pen ∧ r.pen ≤ 8388607) (hz : 0 ≤ e.size ∧ e.size ≤ 65536) (hf : fits e.ax e.ay = true) (hm : mayG g = true)
    (hst : 0 < g.n → ∃ b off, p = some ⟨b, off, none⟩ ∧ FreS w S b ∧ ∀ j, j < g.n → ∀ t, t < 7 → w.cell? ⟨b, off + j * 7 + t, none⟩ = some (.int .i64 (g.F j t))) :
    Calls Try.prog 32 #[.pointer (some ⟨S, 0, none⟩), .agg #[.int .i64 g.code, .int .i64 g.adv, .slice p g.n c]] w (LettPost S Bo e r g w) := by
  obtain ⟨hm1, hm2, hm3, hm4⟩ := may_parts hm
  have CH := Lib.hid hm4
  have ST := Lib.hid hst
  have HS := Lib.hid hS
  have HF := Lib.hid hf
  have LE : Hid (lettE e r g = if 200 < r.out.length + g.n then 7 else if okS e r.pen g.F g.n = false then 4 else if 8388607 < r.pen + g.adv then 4 else 0) := Lib.hid rfl
  have LR : Hid ((lettR e r g).pen = r.pen + g.adv ∧ (lettR e r g).out = r.out ++ stepsL e r.pen g.F g.n) := Lib.hid ⟨rfl, rfl⟩
  obtain ⟨le, hle⟩ : ∃ le, le = lettE e r g := ⟨_, rfl⟩
  have POST : Hid (∀ en w', en = .returned (.int .i64 le) → FrmS w w' S → (le = 0 → SetS w' S Bo e (r.pen + g.adv) (r.out ++ stepsL e r.pen g.F g.n)) → LettPost S Bo e r g w en w') := Lib.hid (fun en w' h1 h2 h3 => ⟨by rw [← hle]; exact h1, h2, fun h => by rw [LR.out.1, LR.out.2]; exact h3 (by rw [hle]; exact h)⟩)
  rw [← hle] at LE
  clear hle LR hm4 hst hS hf hm
  obtain ⟨err, pen, out⟩ := r
  obtain ⟨code, adv, n, F⟩ := g
  dsimp only at *
  obtain ⟨X, hX⟩ : ∃ X, X = w.heap.size := ⟨_, rfl⟩
  obtain ⟨w1, hw1⟩ : ∃ w1, w1 = w.alloc (.cells #[.int .i64 code, .int .i64 adv, .slice p n c] 78) := ⟨_, rfl⟩
  have X1 : Hid (BxAt w1 X [.int .i64 code, .int .i64 adv, .slice p n c]) := Lib.hid (by rw [hw1, hX]; exact BxAt.new w _ _)
  have b1 : Below w.heap.size w w1 := by rw [hw1]; exact below_alloc _ _
  have F1 : Hid (FrmS w w1 S) := Lib.hid (FrmS.of_below HS.out.lt b1)
  have S1 := Lib.hid (HS.out.later b1)
  have FX : Hid (FreS w1 S X) := Lib.hid (by rw [hw1, hX]; exact HS.out.fre)
  have ST1 : Hid (0 < n → ∃ b off, p = some ⟨b, off, none⟩ ∧ FreS w1 S b ∧ ∀ j, j < n → ∀ t, t < 7 → w1.cell? ⟨b, off + j * 7 + t, none⟩ = some (.int .i64 (F j t))) := Lib.hid (fun h => by
    obtain ⟨b, off, h1, h2, h3⟩ := ST.out h
    exact ⟨b, off, h1, (F1.out.block b h2).2, fun j hj t ht => cell_later b1 (h3 j hj t ht)⟩)
  have WA := Lib.hid (And.intro hw1 hX)
  have x2 := X1.out.2.2 2 _ rfl
  obtain ⟨p0, n0, c0, hbx, _, _, hown⟩ := S1.out
  have hn0 : n0 = out.length := by
    rcases hown.2 with ⟨hv, h0⟩ | ⟨_, _, _, hv, _⟩
    · simp only [Value.slice.injEq] at hv; omega
    · simp only [Value.slice.injEq] at hv; omega
  subst hn0
  have k4 := hbx.2.2 4 _ rfl
  have zS := hbx.1
  have zX := X1.out.1
  obtain ⟨q, hq⟩ : ∃ q, q = out.length := ⟨_, rfl⟩
  rw [← hq] at LE hl k4
  have HQ := Lib.hid hq
  clear hw1 hX b1 ST HS hbx hown hq
  by_cases hbig : 200 < q + n
  · have e7 : le = 7 := by rw [LE.out, if_pos hbig]
    subst e7
    have d1 : decide ((200 : Int) < (q : Int) + (n : Int)) = true := decide_eq_true (by omega)
    have d2 : (200 : Int) < (q : Int) + (n : Int) := by omega
    go_enter Try.func32, Try.ntmps32
    go_wp2_with fail
    rw [← WA.out.1, ← WA.out.2]
    go_quiet (fail)
    go_wp2_with fail
    go_ret
    exact POST.out _ _ rfl (F1.out.trans (FrmS.of_below zS (bel_drewN _ _))) (fun h => by cases h)
  · have LE2 : Hid (le = if okS e pen F n = false then 4 else if 8388607 < pen + adv then 4 else 0) := Lib.hid (by rw [LE.out, if_neg hbig])
    have d1 : decide ((200 : Int) < (q : Int) + (n : Int)) = false := decide_eq_false (by omega)
    have d2 : ¬ (200 : Int) < (q : Int) + (n : Int) := by omega
    clear LE
    go_enter Try.func32, Try.ntmps32
    go_wp2_with fail
    rw [← WA.out.1, ← WA.out.2]
    go_quiet (fail)
    obtain ⟨w2, hw2⟩ : ∃ w2, w2 = w1.drewN nq := ⟨_, rfl⟩
    rw [← hw2]
    have b2 : Below w1.heap.size w1 w2 := by rw [hw2]; exact bel_drewN _ _
    have X2 := Lib.hid (X1.out.later b2)
    have F12 : Hid (FrmS w1 w2 S) := Lib.hid (FrmS.of_below zS b2)
    have S2 := Lib.hid (S1.out.later b2)
    have x2 := X2.out.2.2 2 _ rfl
    clear hw2 b2 k4
    go_wp2_with fail
    go_loopw [20] (fun i wr => ∃ k : Nat, k ≤ n ∧ i = .int .i64 k ∧ okS e pen F k = true ∧ SetS wr S Bo e pen (out ++ stepsL e pen F k) ∧ FrmS w1 wr S) (fun i _ => n - (intOf i).toNat)
    case atStart => exact ⟨0, by omega, rfl, rfl, by simpa [stepsL] using S2.out, F12.out⟩
    case round =>
      obtain ⟨k, hk, rfl, hok, hset, hfr⟩ := hrel
      have OK := Lib.hid hok
      have SK := Lib.hid hset
      have FR := Lib.hid hfr
      clear hok hset hfr
      by_cases hlt : k < n
      · obtain ⟨b, off, rfl, hfb, hc⟩ := ST1.out (by omega)
        have cc : ∀ t, t < 7 → wr.cell? ⟨b, off + k * 7 + t, none⟩ = some (.int .i64 (F k t)) := fun t ht => FR.out.cell hfb (hc k hlt t ht)
        have c0 := cc 0 (by omega)
        have c1 := cc 1 (by omega)
        have c2 := cc 2 (by omega)
        have c3 := cc 3 (by omega)
        have c4 := cc 4 (by omega)
        have c5 := cc 5 (by omega)
        have c6 := cc 6 (by omega)
        rw [Nat.add_zero] at c0
        obtain ⟨hu1, hu2⟩ := right_fits (chk_at CH.out hlt)
        have hlen : (out ++ stepsL e pen F k).length ≤ 1000 := by rw [List.length_append, stepsL_len, ← HQ.out]; omega
        have GS : Hid (∀ W, SetS W S Bo e pen (out ++ stepsL e pen F k) → Calls Try.prog 44 #[.pointer (some ⟨S, 0, none⟩), .agg #[.int .i64 (F k 0), .int .i64 (F k 1), .int .i64 (F k 2), .int .i64 (F k 3), .int .i64 (F k 4), .int .i64 (F k 5), .int .i64 (F k 6)]] W (fun en W' => en = .returned (.bool (stepO e pen (F k))) ∧ FrmS W W' S ∧ (stepO e pen (F k) = true → SetS W' S Bo e pen (out ++ stepsL e pen F (k + 1))))) := Lib.hid (fun W hW => (gstep_any S Bo e pen (out ++ stepsL e pen F k) (F k) W hW hlen hp hz HF.out hu1 hu2).mono fun en W' h => ⟨h.1, h.2.1, fun h2 => by rw [stepsL_succ, ← List.append_assoc]; exact h.2.2 h2⟩)
        have OX : Hid (okS e pen F (k + 1) = (okS e pen F k && stepO e pen (F k))) := Lib.hid rfl
        have OL : Hid (stepO e pen (F k) = false → okS e pen F n = false) := Lib.hid (fun h => okS_lt hlt h)
        obtain ⟨ok, hok⟩ : ∃ o, o = stepO e pen (F k) := ⟨_, rfl⟩
        rw [← hok] at GS OX OL
        obtain ⟨f0, hf0⟩ : ∃ x, x = F k 0 := ⟨_, rfl⟩
        obtain ⟨f1, hf1⟩ : ∃ x, x = F k 1 := ⟨_, rfl⟩
        obtain ⟨f2, hf2⟩ : ∃ x, x = F k 2 := ⟨_, rfl⟩
        obtain ⟨f3, hf3⟩ : ∃ x, x = F k 3 := ⟨_, rfl⟩
        obtain ⟨f4, hf4⟩ : ∃ x, x = F k 4 := ⟨_, rfl⟩
        obtain ⟨f5, hf5⟩ : ∃ x, x = F k 5 := ⟨_, rfl⟩
        obtain ⟨f6, hf6⟩ : ∃ x, x = F k 6 := ⟨_, rfl⟩
        rw [← hf0] at c0
        rw [← hf1] at c1
        rw [← hf2] at c2
        rw [← hf3] at c3
        rw [← hf4] at c4
        rw [← hf5] at c5
        rw [← hf6] at c6
        rw [← hf0, ← hf1, ← hf2, ← hf3, ← hf4, ← hf5, ← hf6] at GS
        have hk0 : (0 : Int) ≤ (k : Int) := by omega
        have hk3 : (k : Int) < (n : Int) := by omega
        have zSr := SK.out.lt
        clear hok hf0 hf1 hf2 hf3 hf4 hf5 hf6 cc hc hu1 hu2 hlen
        go_wp2_with fail
        obtain ⟨w3, hw3⟩ : ∃ w3, w3 = wr.alloc (.cells #[.int .i64 f0, .int .i64 f1, .int .i64 f2, .int .i64 f3, .int .i64 f4, .int .i64 f5, .int .i64 f6] 59) := ⟨_, rfl⟩
        rw [← hw3]
        have b3 : Below wr.heap.size wr w3 := by rw [hw3]; exact below_alloc _ _
        have S3 := Lib.hid (SK.out.later b3)
        have FR3 := Lib.hid (FR.out.trans (FrmS.of_below zSr b3))
        clear hw3 b3 c0 c1 c2 c3 c4 c5 c6
        refine (GS.out w3 S3.out).mono ?_
        rintro en w4 ⟨rfl, hfr4, hs4⟩
        have FR4 := Lib.hid (FR3.out.trans hfr4)
        have S4 := Lib.hid hs4
        clear hfr4 hs4
        cases ok
        · have e4 : le = 4 := by rw [LE2.out, if_pos (OL.out rfl)]
          subst e4
          go_wp2_with fail
          go_ret
          exact POST.out _ _ rfl (F1.out.trans FR4.out) (fun h => by cases h)
        · have OK1 : Hid (okS e pen F (k + 1) = true) := Lib.hid (by rw [OX.out, OK.out]; rfl)
          have S5 := Lib.hid (S4.out rfl)
          clear S4 OX OL
          go_wp2_with fail
          refine ⟨⟨k + 1, by omega, by go_num, OK1.out, S5.out, FR4.out⟩, by (first | (simp [intOf]; done) | (simp [intOf]; omega) | (simp only [intOf]; omega))⟩
      · obtain rfl : k = n := by omega
        have LE3 : Hid (le = if 8388607 < pen + adv then 4 else 0) := Lib.hid (by rw [LE2.out, if_neg (by rw [OK.out]; simp)])
        obtain ⟨p1, n1, c1, hbx, h1, h2, hown⟩ := SK.out
        have s3 := hbx.2.2 3 _ rfl
        have sf := hbx.2.1
        have zSr := hbx.1
        have x1 := FR.out.cell FX.out (X1.out.2.2 1 _ rfl)
        have zXr := (FR.out.block X FX.out).2.1
        have SX : Hid (X ≠ S) := Lib.hid FX.out.2.1
        have HBX := Lib.hid hbx
        have OWN := Lib.hid hown
        have rr : IntKind.i64.wrap (pen + adv) = pen + adv := IntWalk.i64_in _ (by omega)
        clear LE2 hbx hown
        go_wp2_with fail
        go_region
        obtain ⟨z, hz9⟩ : ∃ z, z = pen + adv := ⟨_, rfl⟩
        obtain ⟨w5, hw5⟩ : ∃ w5, w5 = (wr.setCell ⟨S, 3, none⟩ (.int .i64 z)).drew := ⟨_, rfl⟩
        rw [← hz9] at rr LE3 POST ⊢
        rw [← hw5]
        have X5 : BxAt w5 S (stC e z (.slice p1 n1 c1)) := by
          have h := HBX.out.put 3 (.int .i64 z) (by simp)
          rw [hw5]
          exact h
        have S5 : Hid (SetS w5 S Bo e z (out ++ stepsL e pen F k)) := Lib.hid ⟨p1, n1, c1, X5, h1, by rw [hw5]; simpa using h2, by rw [hw5]; exact (ownsRow_setCell_below OWN.out (a := ⟨S, 3, none⟩) (show S < Bo by omega) _).drew⟩
        have F5 : Hid (FrmS w w5 S) := Lib.hid (F1.out.trans ((FR.out.store s3 (u := .int .i64 z) (fun y h => by cases h)).trans (by rw [hw5]; exact FrmS.of_below (by simpa using zSr) ((Below.refl _ _).drew))))
        have s5 := X5.2.2 3 _ rfl
        have z5 := X5.1
        clear hw5 hz9 s3 sf X5 zSr x1 zXr
        by_cases hgt : 8388607 < z
        · have e4 : le = 4 := by rw [LE3.out, if_pos hgt]
          subst e4
          have d5 : decide (8388607 < z) = true := decide_eq_true hgt
          go_wp2_with fail
          go_ret
          exact POST.out _ _ rfl F5.out (fun h => by cases h)
        · have e0 : le = 0 := by rw [LE3.out, if_neg hgt]
          subst e0
          have d5 : decide (8388607 < z) = false := decide_eq_false hgt
          go_wp2_with fail
          go_ret
          exact POST.out _ _ rfl F5.out (fun _ => S5.out)
end Go.Proofs.Ythglgempbdaikaa
