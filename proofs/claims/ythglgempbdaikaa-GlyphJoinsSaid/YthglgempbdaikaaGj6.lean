/- Contracts of package glyph: first, Find, get. -/
import Derived.Test.YthglgempbdaikaaGj5
import Derived.Test.YthglgempbdaikaaGj2
namespace Go.Proofs.Ythglgempbdaikaa
open Go.RowKit

/-- a slice of glyphs -/
def FontV (w : World) (v : Value) (fn : Nat) (G : Nat → Gl) : Prop := ∃ (a : Option Addr) (cap : Nat), v = .slice a fn cap ∧ fn ≤ 281474976710656 ∧ (0 < fn → ∃ g off, a = some ⟨g, off, none⟩ ∧ ∀ j, j < fn → ∃ p c, w.cell? ⟨g, off + j * 3, none⟩ = some (.int .i64 (G j).code) ∧ w.cell? ⟨g, off + j * 3 + 1, none⟩ = some (.int .i64 (G j).adv) ∧ w.cell? ⟨g, off + j * 3 + 2, none⟩ = some (.slice p (G j).n c) ∧ Sts w (.slice p (G j).n c) (G j).n (G j).F)
theorem FontV.later {w w1 : World} {v : Value} {fn : Nat} {G : Nat → Gl} (h : FontV w v fn G) (hb : Below w.heap.size w w1) : FontV w1 v fn G := by
  obtain ⟨a, cap, hv, hn, hc⟩ := h
  refine ⟨a, cap, hv, hn, fun h0 => ?_⟩
  obtain ⟨g, off, ha, hp⟩ := hc h0
  refine ⟨g, off, ha, fun j hj => ?_⟩
  obtain ⟨p, c, h1, h2, h3, h4⟩ := hp j hj
  exact ⟨p, c, cell_later hb h1, cell_later hb h2, cell_later hb h3, h4.later hb⟩
/-- what a search answers -/
def FoundPost (fn : Nat) (G : Nat → Gl) (x : Int) (w0 w : World) (e : Ending) (w' : World) : Prop :=
  Below w.heap.size w w' ∧ ∃ code adv p n c b, e = .returned (.tuple #[.agg #[.int .i64 code, .int .i64 adv, .slice p n c], .bool b]) ∧
    ((findG G x fn = none ∧ b = false) ∨ ∃ j, findG G x fn = some j ∧ b = true ∧ code = (G j).code ∧ adv = (G j).adv ∧ n = (G j).n ∧ Sts w0 (.slice p n c) (G j).n (G j).F)
theorem bx3 {w : World} {g : Nat} {u0 u1 u2 : Value} (h : BxAt w g [u0, u1, u2]) (x y z : Value) : BxAt (((w.setCell ⟨g, 0, none⟩ x).setCell ⟨g, 1, none⟩ y).setCell ⟨g, 2, none⟩ z) g [x, y, z] :=
  ((h.put 0 x (by simp)).put 1 y (by simp)).put 2 z (by simp)
theorem below3 {B : Nat} {w0 w : World} {g : Nat} (h : Below B w0 w) (hg : B ≤ g) (x y z : Value) : Below B w0 (((w.setCell ⟨g, 0, none⟩ x).setCell ⟨g, 1, none⟩ y).setCell ⟨g, 2, none⟩ z) :=
  ((h.setCell (p := ⟨g, 0, none⟩) hg _).setCell (p := ⟨g, 1, none⟩) hg _).setCell (p := ⟨g, 2, none⟩) hg _
theorem is_any (C : Nat) (code adv x : Int) (s : Value) (w : World) (hc : w.cell? ⟨C, 0, none⟩ = some (.int .i64 x)) :
    Calls Try.prog 56 #[.agg #[.int .i64 code, .int .i64 adv, s], .pointer (some ⟨C, 0, none⟩)] w (RetPost (.bool (code == x)) w) := by
  have c1 := cell_alloc (.cells #[.int .i64 code, .int .i64 adv, s] 78) hc
  go_enter Try.func56, Try.ntmps56
  go_wp2_with fail
  go_ret
  exact ⟨rfl, below_alloc _ _⟩
set_option maxRecDepth 100000 in
set_option maxHeartbeats 3200000 in
theorem first_any (v : Value) (fn : Nat) (G : Nat → Gl) (C : Nat) (x : Int) (wf w : World) (h : FontV wf v fn G) (hbf : Below wf.heap.size wf w) (hc : w.cell? ⟨C, 0, none⟩ = some (.int .i64 x)) :
    Calls Try.prog 55 #[v, .func (.func 56) #[] #[.pointer (some ⟨C, 0, none⟩)]] w (FoundPost fn G x wf w) := by
  have BF := Lib.hid hbf
  clear hbf
  obtain ⟨a, cap, rfl, hn, hcc⟩ := h
  have FC := Lib.hid hcc
  clear hcc
  obtain ⟨w1, hw1⟩ : ∃ w1, w1 = w.alloc (.cells #[.int .i64 0, .int .i64 0, .slice none 0 0] 78) := ⟨_, rfl⟩
  obtain ⟨R, hR⟩ : ∃ R, R = w.heap.size := ⟨_, rfl⟩
  have R1 : Hid (BxAt w1 R [.int .i64 0, .int .i64 0, .slice none 0 0]) := Lib.hid (by rw [hw1, hR]; exact BxAt.new w _ _)
  have B1 : Hid (Below w.heap.size w w1) := Lib.hid (by rw [hw1]; exact below_alloc _ _)
  have HR : Hid (w.heap.size ≤ R) := Lib.hid (by rw [hR]; exact Nat.le_refl _)
  have CC := Lib.hid hc
  have IS := Lib.hid (fun code adv s W (hb : Below w.heap.size w W) => is_any C code adv x s W (cell_later hb CC.out))
  have WA := Lib.hid (And.intro hw1 hR)
  clear hw1 hR hc
  go_enter Try.func55, Try.ntmps55
  go_wp2_with fail
  rw [← WA.out.1, ← WA.out.2]
  go_loopw [11] (fun i wr => ∃ k : Nat, k ≤ fn ∧ i = .int .i64 k ∧ findG G x k = none ∧ Below w.heap.size w wr ∧ BxAt wr R [.int .i64 0, .int .i64 0, .slice none 0 0]) (fun i _ => fn - (intOf i).toNat)
  case atStart => exact ⟨0, by omega, rfl, rfl, B1.out, R1.out⟩
  case round =>
    obtain ⟨k, hk, rfl, hfd, hb, hr⟩ := hrel
    have FD := Lib.hid hfd
    have B := Lib.hid hb
    have RR := Lib.hid hr
    clear hfd hb hr
    by_cases hlt : k < fn
    · obtain ⟨g, off, rfl, hp⟩ := FC.out (by omega)
      obtain ⟨p, c, e0, e1, e2, e3⟩ := hp k hlt
      have c0 := cell_later (bthen BF.out B.out) e0
      have c1 := cell_later (bthen BF.out B.out) e1
      have c2 := cell_later (bthen BF.out B.out) e2
      have ST := Lib.hid e3
      have FS : Hid (findG G x (k + 1) = match findG G x k with
          | some j => some j
          | none => if (G k).code = x then some k else none) := Lib.hid rfl
      have FT : Hid ((G k).code = x → findG G x fn = some k) := Lib.hid (fun h => findG_stays (n := k + 1) (by rw [FS.out, FD.out]; simp [h]) (by omega))
      have FN : Hid (¬ (G k).code = x → findG G x (k + 1) = none) := Lib.hid (fun h => by rw [FS.out, FD.out]; simp [h])
      have GE : Hid (∃ code adv n, code = (G k).code ∧ adv = (G k).adv ∧ n = (G k).n) := Lib.hid ⟨_, _, _, rfl, rfl, rfl⟩
      obtain ⟨code, adv, n, g1, g2, g3⟩ := GE.out
      have GQ := Lib.hid (And.intro g1 (And.intro g2 g3))
      rw [← g1] at c0 FT FN
      rw [← g2] at c1
      rw [← g3] at c2 ST
      have hk0 : (0 : Int) ≤ (k : Int) := by omega
      have hk3 : (k : Int) < (fn : Int) := by omega
      clear g1 g2 g3 GE hp e0 e1 e2 e3 FS
      go_wp2_with fail
      obtain ⟨w3, hw3⟩ : ∃ w3, w3 = wr.alloc (.cells #[.int .i64 code, .int .i64 adv, .slice p n c] 78) := ⟨_, rfl⟩
      obtain ⟨Q, hQ⟩ : ∃ Q, Q = wr.heap.size := ⟨_, rfl⟩
      rw [← hw3, ← hQ]
      have b3 : Below wr.heap.size wr w3 := by rw [hw3]; exact below_alloc _ _
      have Q3 : Hid (BxAt w3 Q [.int .i64 code, .int .i64 adv, .slice p n c]) := Lib.hid (by rw [hw3, hQ]; exact BxAt.new wr _ _)
      have B3 := Lib.hid (bthen B.out b3)
      have R3 := Lib.hid (RR.out.later b3)
      clear hw3 hQ b3 c0 c1 c2
      refine (IS.out code adv (.slice p n c) w3 B3.out).mono ?_
      rintro e w4 ⟨rfl, hb4⟩
      have B4 := Lib.hid (bthen B3.out hb4)
      have R4 := Lib.hid (R3.out.later hb4)
      have Q4 := Lib.hid (Q3.out.later hb4)
      clear hb4
      by_cases hx : code = x
      · have d0 : (code == x) = true := by simpa using hx
        have FF := Lib.hid (FT.out hx)
        rw [d0]
        have q0 := Q4.out.2.2 0 _ rfl
        have q1 := Q4.out.2.2 1 _ rfl
        have q2 := Q4.out.2.2 2 _ rfl
        have r0 := R4.out.2.2 0 _ rfl
        have r1 := R4.out.2.2 1 _ rfl
        have r2 := R4.out.2.2 2 _ rfl
        have rf := R4.out.2.1
        have RB := bx3 R4.out (.int .i64 code) (.int .i64 adv) (.slice p n c)
        have z0 := RB.2.2 0 _ rfl
        have z1 := RB.2.2 1 _ rfl
        have z2 := RB.2.2 2 _ rfl
        have BE := Lib.hid (below3 B4.out HR.out (.int .i64 code) (.int .i64 adv) (.slice p n c))
        have FIN : Hid (FoundPost fn G x wf w (.returned (.tuple #[.agg #[.int .i64 code, .int .i64 adv, .slice p n c], .bool true])) (((w4.setCell ⟨R, 0, none⟩ (.int .i64 code)).setCell ⟨R, 1, none⟩ (.int .i64 adv)).setCell ⟨R, 2, none⟩ (.slice p n c))) := Lib.hid ⟨BE.out, _, _, _, _, _, _, rfl, Or.inr ⟨k, FF.out, rfl, GQ.out.1, GQ.out.2.1, GQ.out.2.2, by rw [← GQ.out.2.2]; exact ST.out⟩⟩
        clear RB FT FN hx d0
        go_wp2_with fail
        refine bodyPost_ret (v := .tuple #[.agg #[.int .i64 code, .int .i64 adv, .slice p n c], .bool true]) ?_ rfl FIN.out
        simp [results, Try.results55, go_sem, z0, z1, z2]
      · have d0 : (code == x) = false := by simpa using hx
        have FF := Lib.hid (FN.out hx)
        rw [d0]
        clear FT FN hx d0
        go_wp2_with fail
        refine ⟨⟨k + 1, by omega, by go_num, FF.out, B4.out, R4.out⟩, by (first | (simp [intOf]; done) | (simp [intOf]; omega) | (simp only [intOf]; omega))⟩
    · obtain rfl : k = fn := by omega
      have r0 := RR.out.2.2 0 _ rfl
      have r1 := RR.out.2.2 1 _ rfl
      have r2 := RR.out.2.2 2 _ rfl
      have rf := RR.out.2.1
      have zR := RR.out.1
      have b3 := below_alloc wr (.cells #[.int .i64 0, .int .i64 0, .slice none 0 0] 78)
      have RB := bx3 RR.out (.int .i64 0) (.int .i64 0) (.slice none 0 0)
      have RB3 := RB.later (below_alloc _ (.cells #[.int .i64 0, .int .i64 0, .slice none 0 0] 78))
      have z0 := RB3.2.2 0 _ rfl
      have z1 := RB3.2.2 1 _ rfl
      have z2 := RB3.2.2 2 _ rfl
      have BE := Lib.hid (bthen (below3 B.out HR.out (.int .i64 0) (.int .i64 0) (.slice none 0 0)) (below_alloc _ (.cells #[.int .i64 0, .int .i64 0, .slice none 0 0] 78)))
      have FIN : Hid (FoundPost k G x wf w (.returned (.tuple #[.agg #[.int .i64 0, .int .i64 0, .slice none 0 0], .bool false])) ((((wr.setCell ⟨R, 0, none⟩ (.int .i64 0)).setCell ⟨R, 1, none⟩ (.int .i64 0)).setCell ⟨R, 2, none⟩ (.slice none 0 0)).alloc (.cells #[.int .i64 0, .int .i64 0, .slice none 0 0] 78))) := Lib.hid ⟨BE.out, _, _, _, _, _, _, rfl, Or.inl ⟨FD.out, rfl⟩⟩
      clear RB RB3 b3
      go_wp2_with fail
      refine bodyPost_ret (v := .tuple #[.agg #[.int .i64 0, .int .i64 0, .slice none 0 0], .bool false]) ?_ rfl FIN.out
      simp [results, Try.results55, go_sem, z0, z1, z2]
set_option maxRecDepth 100000 in
set_option maxHeartbeats 3200000 in
theorem find_any (v : Value) (fn : Nat) (G : Nat → Gl) (x : Int) (wf w : World) (h : FontV wf v fn G) (hbf : Below wf.heap.size wf w) : Calls Try.prog 42 #[v, .int .i64 x] w (FoundPost fn G x wf w) := by
  obtain ⟨w1, hw1⟩ : ∃ w1, w1 = (w.alloc (.cells #[.int .i64 x] 3)).alloc (.cells #[.int .i64 0, .int .i64 0, .slice none 0 0] 78) := ⟨_, rfl⟩
  obtain ⟨C, hC⟩ : ∃ C, C = w.heap.size := ⟨_, rfl⟩
  have R1 : Hid (BxAt w1 (C + 1) [.int .i64 0, .int .i64 0, .slice none 0 0]) := Lib.hid (by rw [hw1, hC]; exact bx_b w _ _ _)
  have C1 : Hid (BxAt w1 C [.int .i64 x]) := Lib.hid (by rw [hw1, hC]; exact bx_a2 w _ _ _)
  have B1 : Hid (Below w.heap.size w w1) := Lib.hid (by rw [hw1]; exact bel2 _ _ _)
  have HC : Hid (w.heap.size ≤ C + 1) := Lib.hid (by rw [hC]; omega)
  have FA := Lib.hid (first_any v fn G C x wf w1 h (bthen hbf B1.out) (C1.out.2.2 0 _ rfl))
  obtain ⟨a, cap, rfl, hn, hcc⟩ := h
  have WA := Lib.hid (And.intro hw1 hC)
  have hmf : ∀ (fn : Fn) (first cap : Array Value) (w : World), (Instr.makeFunc fn first cap).run Try.prog w = .ok (.func fn first cap) w := fun _ _ _ _ => rfl
  clear hw1 hC hcc hbf
  go_enter Try.func42, Try.ntmps42
  go_wp2_with fail
  rw [← WA.out.1, ← WA.out.2]
  refine FA.out.mono ?_
  rintro e w2 ⟨hb2, code, adv, p, n, c, b, rfl, hf⟩
  have HF := Lib.hid hf
  have R2 := Lib.hid (R1.out.later hb2)
  have B2 := Lib.hid (bthen B1.out hb2)
  clear hf hb2 hmf
  have r0 := R2.out.2.2 0 _ rfl
  have r1 := R2.out.2.2 1 _ rfl
  have r2 := R2.out.2.2 2 _ rfl
  have rf := R2.out.2.1
  have RB := bx3 R2.out (.int .i64 code) (.int .i64 adv) (.slice p n c)
  have z0 := RB.2.2 0 _ rfl
  have z1 := RB.2.2 1 _ rfl
  have z2 := RB.2.2 2 _ rfl
  have BE := Lib.hid (below3 B2.out HC.out (.int .i64 code) (.int .i64 adv) (.slice p n c))
  clear RB
  go_wp2_with fail
  refine bodyPost_ret (v := .tuple #[.agg #[.int .i64 code, .int .i64 adv, .slice p n c], .bool b]) ?_ rfl ⟨BE.out, _, _, _, _, _, _, rfl, HF.out⟩
  simp [results, Try.results42, go_sem, z0, z1, z2]
/-- what a byte's glyph is -/
def GotPost (fn : Nat) (G : Nat → Gl) (x : Int) (w0 w : World) (e : Ending) (w' : World) : Prop :=
  Below w.heap.size w w' ∧ ∃ p c, e = .returned (.tuple #[.agg #[.int .i64 (getG fn G x).code, .int .i64 (getG fn G x).adv, .slice p (getG fn G x).n c], .int .i64 (getE fn G x)]) ∧
    (getE fn G x = 0 → mayG (getG fn G x) = true ∧ Sts w0 (.slice p (getG fn G x).n c) (getG fn G x).n (getG fn G x).F)
set_option maxRecDepth 100000 in
set_option maxHeartbeats 3200000 in
theorem get_any (v : Value) (fn : Nat) (G : Nat → Gl) (x : Int) (wf w : World) (hx : 0 ≤ x ∧ x ≤ 255) (h : FontV wf v fn G) (hbf : Below wf.heap.size wf w) : Calls Try.prog 31 #[v, .int .u8 x] w (GotPost fn G x wf w) := by
  obtain ⟨w1, hw1⟩ : ∃ w1, w1 = w.alloc (.cells #[.int .i64 0, .int .i64 0, .slice none 0 0] 78) := ⟨_, rfl⟩
  obtain ⟨R, hR⟩ : ∃ R, R = w.heap.size := ⟨_, rfl⟩
  have R1 : Hid (BxAt w1 R [.int .i64 0, .int .i64 0, .slice none 0 0]) := Lib.hid (by rw [hw1, hR]; exact BxAt.new w _ _)
  have B1 : Hid (Below w.heap.size w w1) := Lib.hid (by rw [hw1]; exact below_alloc _ _)
  have HR : Hid (w.heap.size ≤ R) := Lib.hid (by rw [hR]; exact Nat.le_refl _)
  have FA := Lib.hid (find_any v fn G x wf w1 h (bthen hbf B1.out))
  have BF := Lib.hid hbf
  have WA := Lib.hid (And.intro hw1 hR)
  have rx : IntKind.i64.wrap x = x := IntWalk.i64_in _ (by omega)
  obtain ⟨a, cap, rfl, hn, hcc⟩ := h
  have ZN : Hid (findG G x fn = none → getE fn G x = 8 ∧ getG fn G x = ⟨0, 0, 0, fun _ _ => 0⟩) := Lib.hid (fun h => by unfold getE getG; rw [h]; exact ⟨rfl, rfl⟩)
  have ZS : Hid (∀ j, findG G x fn = some j → getE fn G x = (if mayG (G j) = true then 0 else 2) ∧ getG fn G x = (if mayG (G j) = true then G j else ⟨0, 0, 0, fun _ _ => 0⟩)) := Lib.hid (fun j h => by unfold getE getG; rw [h]; exact ⟨rfl, rfl⟩)
  clear hw1 hR hcc hbf
  go_enter Try.func31, Try.ntmps31
  go_wp2_with fail
  rw [← WA.out.1, ← WA.out.2]
  refine FA.out.mono ?_
  rintro e w2 ⟨hb2, code, adv, p, n, c, b, rfl, hf⟩
  obtain ⟨w3, hw3⟩ : ∃ w3, w3 = w2.alloc (.cells #[.int .i64 code, .int .i64 adv, .slice p n c] 78) := ⟨_, rfl⟩
  obtain ⟨Q, hQ⟩ : ∃ Q, Q = w2.heap.size := ⟨_, rfl⟩
  have b3 : Below w2.heap.size w2 w3 := by rw [hw3]; exact below_alloc _ _
  have Q3 : Hid (BxAt w3 Q [.int .i64 code, .int .i64 adv, .slice p n c]) := Lib.hid (by rw [hw3, hQ]; exact BxAt.new w2 _ _)
  have R3 := Lib.hid ((R1.out.later hb2).later b3)
  have B3 := Lib.hid (bthen (bthen B1.out hb2) b3)
  have W3 := Lib.hid (And.intro hw3 hQ)
  have R2 := R1.out.later hb2
  have y0 := R2.2.2 0 _ rfl
  have y1 := R2.2.2 1 _ rfl
  have y2 := R2.2.2 2 _ rfl
  have yf := R2.2.1
  have zR := R2.1
  clear hw3 hQ b3 R2
  rcases hf with ⟨hfn, rfl⟩ | ⟨j, hfj, rfl, rfl, rfl, rfl, hst⟩
  · obtain ⟨e1, e2⟩ := ZN.out hfn
    have E12 := Lib.hid (And.intro e1 e2)
    have B2 := Lib.hid (bthen B1.out hb2)
    have R2 := Lib.hid (R1.out.later hb2)
    clear e1 e2 hfn hb2
    have RB3 := (bx3 R2.out (.int .i64 0) (.int .i64 0) (.slice none 0 0)).later (below_alloc _ (.cells #[.int .i64 code, .int .i64 adv, .slice p n c] 78))
    have z0 := RB3.2.2 0 _ rfl
    have z1 := RB3.2.2 1 _ rfl
    have z2 := RB3.2.2 2 _ rfl
    have BE := Lib.hid (bthen (below3 B2.out HR.out (.int .i64 0) (.int .i64 0) (.slice none 0 0)) (below_alloc _ (.cells #[.int .i64 code, .int .i64 adv, .slice p n c] 78)))
    clear RB3
    go_wp2_with fail
    refine bodyPost_ret (v := .tuple #[.agg #[.int .i64 0, .int .i64 0, .slice none 0 0], .int .i64 8]) ?_ rfl ⟨BE.out, none, 0, ?_, fun h => ?_⟩
    · simp [results, Try.results31, go_sem, z0, z1, z2]
    · rw [E12.out.1, E12.out.2]
    · rw [E12.out.1] at h; cases h
  · obtain ⟨e1, e2⟩ := ZS.out j hfj
    have ST := Lib.hid hst
    have MA := Lib.hid (may_any (G j) p c w3 (hst.later (bthen BF.out B3.out)))
    obtain ⟨mg, hmg⟩ : ∃ m, m = mayG (G j) := ⟨_, rfl⟩
    have HM := Lib.hid hmg
    rw [← hmg] at e1 e2 MA
    have E12 := Lib.hid (And.intro e1 e2)
    clear e1 e2 hfj hst hb2 hmg
    obtain ⟨code, hcode⟩ : ∃ z, z = (G j).code := ⟨_, rfl⟩
    obtain ⟨adv, hadv⟩ : ∃ z, z = (G j).adv := ⟨_, rfl⟩
    obtain ⟨n, hn9⟩ : ∃ z, z = (G j).n := ⟨_, rfl⟩
    have GQ := Lib.hid (And.intro hcode (And.intro hadv hn9))
    rw [← hcode, ← hadv, ← hn9] at MA W3 Q3
    rw [← hn9] at ST
    rw [← hcode, ← hadv, ← hn9]
    clear hcode hadv hn9
    go_wp2_with fail
    rw [← W3.out.1, ← W3.out.2]
    refine MA.out.mono ?_
    rintro e w4 ⟨rfl, hb4⟩
    have R4 := Lib.hid (R3.out.later hb4)
    have Q4 := Lib.hid (Q3.out.later hb4)
    have B4 := Lib.hid (bthen B3.out hb4)
    clear hb4 y0 y1 y2 yf zR
    have r0 := R4.out.2.2 0 _ rfl
    have r1 := R4.out.2.2 1 _ rfl
    have r2 := R4.out.2.2 2 _ rfl
    have rf := R4.out.2.1
    have q0 := Q4.out.2.2 0 _ rfl
    have q1 := Q4.out.2.2 1 _ rfl
    have q2 := Q4.out.2.2 2 _ rfl
    cases mg
    · have RB := bx3 R4.out (.int .i64 0) (.int .i64 0) (.slice none 0 0)
      have z0 := RB.2.2 0 _ rfl
      have z1 := RB.2.2 1 _ rfl
      have z2 := RB.2.2 2 _ rfl
      have BE := Lib.hid (below3 B4.out HR.out (.int .i64 0) (.int .i64 0) (.slice none 0 0))
      have E1 : Hid (getE fn G x = 2) := Lib.hid (by rw [E12.out.1]; rfl)
      have E2 : Hid (getG fn G x = ⟨0, 0, 0, fun _ _ => 0⟩) := Lib.hid (by rw [E12.out.2]; rfl)
      clear RB E12
      go_wp2_with fail
      refine bodyPost_ret (v := .tuple #[.agg #[.int .i64 0, .int .i64 0, .slice none 0 0], .int .i64 2]) ?_ rfl ⟨BE.out, none, 0, ?_, fun h => ?_⟩
      · simp [results, Try.results31, go_sem, z0, z1, z2]
      · rw [E1.out, E2.out]
      · rw [E1.out] at h; cases h
    · have RB := bx3 R4.out (.int .i64 code) (.int .i64 adv) (.slice p n c)
      have z0 := RB.2.2 0 _ rfl
      have z1 := RB.2.2 1 _ rfl
      have z2 := RB.2.2 2 _ rfl
      have BE := Lib.hid (below3 B4.out HR.out (.int .i64 code) (.int .i64 adv) (.slice p n c))
      have E1 : Hid (getE fn G x = 0) := Lib.hid (by rw [E12.out.1]; rfl)
      have E2 : Hid (getG fn G x = G j) := Lib.hid (by rw [E12.out.2]; rfl)
      clear RB E12
      go_wp2_with fail
      refine bodyPost_ret (v := .tuple #[.agg #[.int .i64 code, .int .i64 adv, .slice p n c], .int .i64 0]) ?_ rfl ⟨BE.out, p, c, ?_, fun h => ?_⟩
      · simp [results, Try.results31, go_sem, z0, z1, z2]
      · rw [E1.out, E2.out, GQ.out.1, GQ.out.2.1, GQ.out.2.2]
      · rw [E2.out, ← GQ.out.2.2]
        exact ⟨HM.out.symm, ST.out⟩
end Go.Proofs.Ythglgempbdaikaa
