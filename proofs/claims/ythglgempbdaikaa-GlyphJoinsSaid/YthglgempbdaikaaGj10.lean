/- The law GlyphJoins: the walk. -/
import Derived.Test.YthglgempbdaikaaGj9
import Derived.Laws.BytesArg
namespace Go.Proofs.Ythglgempbdaikaa
open Go.RowKit

theorem runK_congr (e : SE) (fn : Nat) (G : Nat → Gl) (B B' : Nat → Int) (n : Nat) (h : ∀ k, k < n → B k = B' k) : runK e fn G B n = runK e fn G B' n := by
  induction n with
  | zero => rfl
  | succ n ih =>
    have e1 := ih (fun k hk => h k (by omega))
    show (if (runK e fn G B n).err ≠ 0 then runK e fn G B n else byteR e fn G (runK e fn G B n) (B n)) = (if (runK e fn G B' n).err ≠ 0 then runK e fn G B' n else byteR e fn G (runK e fn G B' n) (B' n))
    rw [e1, h n (by omega)]
theorem set_congr (e : SE) (fn : Nat) (G : Nat → Gl) (B B' : Nat → Int) (n : Nat) (h : ∀ k, k < n → B k = B' k) : setE e fn G B n = setE e fn G B' n ∧ setL e fn G B n = setL e fn G B' n := by
  have e1 := runK_congr e fn G B B' n h
  have e2 : setE e fn G B n = setE e fn G B' n := by unfold setE; rw [e1]
  refine ⟨e2, ?_⟩
  unfold setL
  rw [e2, e1]
theorem one_byte (x : Int) (hx : 0 ≤ x ∧ x ≤ 255) : (strOfNums [x]).size = 1 ∧ byt (strOfNums [x]) 0 = x := by
  refine ⟨rfl, ?_⟩
  simp [byt, strOfNums]
  omega
theorem byt_cons (x : Int) (s : ByteArray) (hx : 0 ≤ x ∧ x ≤ 255) : (strOfNums [x] ++ s).size = s.size + 1 ∧ ∀ k, byt (strOfNums [x] ++ s) k = consB x (byt s) k := by
  have h1 := one_byte x hx
  refine ⟨by rw [ByteArray.size_append, h1.1]; omega, fun k => ?_⟩
  have hd : (strOfNums [x] ++ s).data = (strOfNums [x]).data ++ s.data := ByteArray.data_append
  have hs1 : (strOfNums [x]).data.size = 1 := rfl
  cases k with
  | zero =>
    have h2 := h1.2
    unfold byt at h2 ⊢
    rw [hd]
    rw [Array.getD_eq_getD_getElem?] at h2 ⊢
    rw [Array.getElem?_append_left (by rw [hs1]; omega)]
    exact h2
  | succ k =>
    show ((((strOfNums [x]) ++ s).data.getD (k + 1) 0).toNat : Int) = byt s (k + 1 - 1)
    unfold byt
    rw [hd, Array.getD_eq_getD_getElem?, Array.getElem?_append_right (by rw [hs1]; omega), hs1, Array.getD_eq_getD_getElem?]
theorem law_facts (e : SE) (fn : Nat) (G : Nat → Gl) (s : ByteArray) (x : Int) (hx : 0 ≤ x ∧ x ≤ 255) :
    (setE e fn G (byt (strOfNums [x] ++ s)) (strOfNums [x] ++ s).size ≠ 0 → setL e fn G (byt (strOfNums [x] ++ s)) (strOfNums [x] ++ s).size = []) ∧
    (setE e fn G (byt (strOfNums [x] ++ s)) (strOfNums [x] ++ s).size = 0 → setE e fn G (byt (strOfNums [x])) (strOfNums [x]).size = 0 ∧ (∃ t, setL e fn G (byt (strOfNums [x] ++ s)) (strOfNums [x] ++ s).size = setL e fn G (byt (strOfNums [x])) (strOfNums [x]).size ++ t) ∧
      (setE e fn G (byt s) s.size = 0 → (setL e fn G (byt (strOfNums [x] ++ s)) (strOfNums [x] ++ s).size).length = (setL e fn G (byt (strOfNums [x])) (strOfNums [x]).size).length + (setL e fn G (byt s) s.size).length)) := by
  constructor
  · intro h
    unfold setL
    rw [if_neg h]
  · obtain ⟨h1, h2⟩ := byt_cons x s hx
    obtain ⟨h3, h4⟩ := one_byte x hx
    obtain ⟨c1, c2⟩ := set_congr e fn G (byt (strOfNums [x] ++ s)) (consB x (byt s)) (s.size + 1) (fun k _ => h2 k)
    obtain ⟨c3, c4⟩ := set_congr e fn G (byt (strOfNums [x])) (fun _ => x) 1 (fun k hk => by
      obtain rfl : k = 0 := by omega
      exact h4)
    rw [h1, h3, c1, c2, c3, c4]
    exact joins
theorem set_len {e : SE} {fn : Nat} {G : Nat → Gl} {B : Nat → Int} {n : Nat} : (setL e fn G B n).length ≤ 200 := by
  unfold setL
  split
  · rename_i h
    unfold setE at h
    split at h
    · cases h
    · exact (run_pen h).2.2
  · simp
set_option maxRecDepth 100000 in
set_option maxHeartbeats 3200000 in
theorem joins_any (v : Value) (fn : Nat) (G : Nat → Gl) (s : ByteArray) (e : SE) (x : Int) (w : World) (h : FontV w v fn G) (hs : s.size ≤ 140737488355328) (hx : 0 ≤ x ∧ x ≤ 255) :
    Calls Try.prog 6 #[v, .agg #[.string s, .int .i64 e.size, .int .i64 e.ax, .int .i64 e.ay], .int .u8 x] w (RetPost (.bool true) w) := by
  have HF := Lib.hid h
  obtain ⟨a, cap, rfl, hn, -⟩ := h
  obtain ⟨f1, f2⟩ := law_facts e fn G s x hx
  obtain ⟨sz1, -⟩ := one_byte x hx
  obtain ⟨sz2, -⟩ := byt_cons x s hx
  obtain ⟨sx, hsx⟩ : ∃ sx, sx = strOfNums [x] := ⟨_, rfl⟩
  have HSX := Lib.hid hsx
  have hcv : ∀ (W : World) (Q : Nat), W.cell? ⟨Q, 0, none⟩ = some (.int .u8 x) → (convert 51 9 (.slice (some ⟨Q, 0, none⟩) 1 1)).run Try.prog W = .ok (.string sx) W := fun W Q hq => by
    rw [hsx]
    exact run_convert_bytes_arg W 51 5 (by kernel_rfl) (by kernel_rfl) Q 0 1 1 [x] rfl (fun i hi => by
      obtain rfl : i = 0 := by omega
      exact hq) 9 (by kernel_rfl)
  rw [← hsx] at f1 f2 sz1 sz2
  have HCV := Lib.hid hcv
  have SA := Lib.hid (fun W (hW : Below w.heap.size w W) => set_any (.slice a fn cap) fn G sx e W (HF.out.later hW) (by omega))
  have SB := Lib.hid (fun W (hW : Below w.heap.size w W) => set_any (.slice a fn cap) fn G s e W (HF.out.later hW) (by omega))
  have SX := Lib.hid (fun W (hW : Below w.heap.size w W) => set_any (.slice a fn cap) fn G (sx ++ s) e W (HF.out.later hW) (by omega))
  have l1 := set_len (e := e) (fn := fn) (G := G) (B := byt sx) (n := sx.size)
  have l2 := set_len (e := e) (fn := fn) (G := G) (B := byt s) (n := s.size)
  have l3 := set_len (e := e) (fn := fn) (G := G) (B := byt (sx ++ s)) (n := (sx ++ s).size)
  obtain ⟨LA, hLA⟩ : ∃ L, L = setL e fn G (byt sx) sx.size := ⟨_, rfl⟩
  obtain ⟨LB, hLB⟩ : ∃ L, L = setL e fn G (byt s) s.size := ⟨_, rfl⟩
  obtain ⟨LX, hLX⟩ : ∃ L, L = setL e fn G (byt (sx ++ s)) (sx ++ s).size := ⟨_, rfl⟩
  obtain ⟨ea, hea⟩ : ∃ z, z = setE e fn G (byt sx) sx.size := ⟨_, rfl⟩
  obtain ⟨eb, heb⟩ : ∃ z, z = setE e fn G (byt s) s.size := ⟨_, rfl⟩
  obtain ⟨ex, hex⟩ : ∃ z, z = setE e fn G (byt (sx ++ s)) (sx ++ s).size := ⟨_, rfl⟩
  rw [← hLA, ← hLB, ← hLX, ← hea, ← heb, ← hex] at f2
  rw [← hLX, ← hex] at f1
  rw [← hLA] at l1
  rw [← hLB] at l2
  rw [← hLX] at l3
  rw [← hLA, ← hea] at SA
  rw [← hLB, ← heb] at SB
  rw [← hLX, ← hex] at SX
  have FF := Lib.hid (And.intro f1 f2)
  have hss : ¬ 9223372036854775807 < sx.size + s.size := by omega
  obtain ⟨size, ax, ay⟩ := e
  dsimp only at *
  clear hcv hLA hLB hLX hea heb hex f1 f2 hsx sz1 sz2 HF
  obtain ⟨w1, hw1⟩ : ∃ w1, w1 = w.alloc (.cells #[.string s, .int .i64 size, .int .i64 ax, .int .i64 ay] 48) := ⟨_, rfl⟩
  obtain ⟨X, hX⟩ : ∃ X, X = w.heap.size := ⟨_, rfl⟩
  have X1 : Hid (BxAt w1 X [.string s, .int .i64 size, .int .i64 ax, .int .i64 ay]) := Lib.hid (by rw [hw1, hX]; exact BxAt.new w _ _)
  have B1 : Hid (Below w.heap.size w w1) := Lib.hid (by rw [hw1]; exact below_alloc _ _)
  have c1 := HCV.out ((w.alloc (.cells #[.string s, .int .i64 size, .int .i64 ax, .int .i64 ay] 48)).alloc (.cells #[.int .u8 x] 5)) (w.heap.size + 1) ((bx_b w [.int .u8 x] 5 _).2.2 0 _ rfl)
  have WA := Lib.hid (And.intro hw1 hX)
  clear hw1 hX
  go_enter Try.func6, Try.ntmps6
  go_wp2_with fail
  rw [← WA.out.1, ← WA.out.2]
  obtain ⟨w2, hw2⟩ : ∃ w2, w2 = w1.alloc (.cells #[.int .u8 x] 5) := ⟨_, rfl⟩
  have X2 : Hid (BxAt w2 X [.string s, .int .i64 size, .int .i64 ax, .int .i64 ay]) := Lib.hid (by rw [hw2]; exact X1.out.later (below_alloc _ _))
  have B2 : Hid (Below w.heap.size w w2) := Lib.hid (by rw [hw2]; exact bthen B1.out (below_alloc _ _))
  rw [← hw2]
  clear hw2 c1
  refine (SA.out w2 B2.out).mono ?_
  rintro en w3 ⟨hb3, pa, ca, rfl, hca, hsa⟩
  have X3 := Lib.hid (X2.out.later hb3)
  have B3 := Lib.hid (bthen B2.out hb3)
  have LA3 := Lib.hid hsa
  have HCA := Lib.hid hca
  clear hb3 hsa hca
  have x0 := X3.out.2.2 0 _ rfl
  have x1 := X3.out.2.2 1 _ rfl
  have x2 := X3.out.2.2 2 _ rfl
  have x3 := X3.out.2.2 3 _ rfl
  go_wp2_with fail
  refine (SB.out w3 B3.out).mono ?_
  rintro en w4 ⟨hb4, pb, cb, rfl, hcb, hsb⟩
  have X4 := Lib.hid (X3.out.later hb4)
  have B4 := Lib.hid (bthen B3.out hb4)
  have LA4 := Lib.hid (LA3.out.later hb4)
  clear hb4 hsb hcb x0 x1 x2 x3
  have zX := X4.out.1
  have b45 := below_alloc w4 (.cells #[.int .u8 x] 5)
  have X5 := X4.out.later b45
  have x0 := X4.out.2.2 0 _ rfl
  have x1 := X4.out.2.2 1 _ rfl
  have x2 := X4.out.2.2 2 _ rfl
  have x3 := X4.out.2.2 3 _ rfl
  have c5 := HCV.out (w4.alloc (.cells #[.int .u8 x] 5)) w4.heap.size ((BxAt.new w4 [.int .u8 x] 5).2.2 0 _ rfl)
  have W5 := Lib.hid X5
  have B5 := Lib.hid (bthen B4.out b45)
  have LA5 := Lib.hid (LA4.out.later b45)
  clear b45 X5
  go_wp2_with fail
  refine (SX.out _ B5.out).mono ?_
  rintro en w6 ⟨hb6, px, cx, rfl, hcx, hsx⟩
  have B6 := Lib.hid (bthen B5.out hb6)
  have LA6 := Lib.hid (LA5.out.later hb6)
  have LX6 := Lib.hid hsx
  clear hb6 hsx c5 x0 x1 x2 x3 hss
  by_cases h0 : ex = 0
  · obtain ⟨e1, ⟨t, ht⟩, e3⟩ := FF.out.2 h0
    have hle : LA.length ≤ LX.length := by rw [ht, List.length_append]; omega
    have TK : LX.take LA.length = LA := by rw [ht]; simp
    have LT := LX6.out.take hle
    rw [TK] at LT
    have SM := Lib.hid (fun W (hW : Below w6.heap.size w6 W) => same20_any _ _ LA W (LT.later hW) (LA6.out.later hW))
    obtain ⟨la, hla⟩ : ∃ z, z = LA.length := ⟨_, rfl⟩
    obtain ⟨lb, hlb⟩ : ∃ z, z = LB.length := ⟨_, rfl⟩
    obtain ⟨lx, hlx⟩ : ∃ z, z = LX.length := ⟨_, rfl⟩
    rw [← hla, ← hlb, ← hlx] at e3
    rw [← hla] at l1 hle SM
    rw [← hlb] at l2
    rw [← hlx] at l3 hle hcx
    rw [← hla, ← hlb, ← hlx]
    have d1 : ¬ (lx : Int) < (la : Int) := by omega
    have d2 : decide ((lx : Int) < (la : Int)) = false := decide_eq_false d1
    have d3 : (la : Int) ≤ (cx : Int) := by omega
    have d4 : la ≤ cx := by omega
    subst h0
    subst e1
    clear ht TK LT hla hlb hlx FF LA6 LX6
    by_cases h2 : eb = 0
    · have e4 := e3 h2
      have d5 : ((lx : Int) != (la : Int) + (lb : Int)) = false := by simp; omega
      subst h2
      subst e4
      clear e3
      go_wp2_with fail
      refine (SM.out w6 (Below.refl _ _)).mono ?_
      rintro en w7 ⟨rfl, m, hm⟩
      have B7 : Hid (Below w.heap.size w w7) := Lib.hid (by rw [hm]; exact bthen B6.out (bel_drewN _ _))
      clear hm
      go_wp2_with fail
      refine (lives13 w7).mono ?_
      rintro en w8 ⟨rfl, hb8⟩
      have B8 := Lib.hid (bthen B7.out hb8)
      clear hb8
      go_wp2_with fail
      go_ret
      exact ⟨rfl, B8.out⟩
    · have d5 : (eb == 0) = false := by simpa using h2
      clear e3
      go_wp2_with fail
      refine (SM.out w6 (Below.refl _ _)).mono ?_
      rintro en w7 ⟨rfl, m, hm⟩
      have B7 : Hid (Below w.heap.size w w7) := Lib.hid (by rw [hm]; exact bthen B6.out (bel_drewN _ _))
      clear hm
      go_wp2_with fail
      refine (lives13 w7).mono ?_
      rintro en w8 ⟨rfl, hb8⟩
      have B8 := Lib.hid (bthen B7.out hb8)
      clear hb8
      go_wp2_with fail
      go_ret
      exact ⟨rfl, B8.out⟩
  · have hx0 := FF.out.1 h0
    have d0 : (ex != 0) = true := by simpa using h0
    subst hx0
    clear FF h0
    go_wp2_with fail
    refine (lives13 w6).mono ?_
    rintro en w7 ⟨rfl, hb7⟩
    have B7 := Lib.hid (bthen B6.out hb7)
    clear hb7
    go_wp2_with fail
    go_ret
    exact ⟨rfl, B7.out⟩
end Go.Proofs.Ythglgempbdaikaa
