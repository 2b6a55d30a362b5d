/- The law GlyphJoins: the walk. -/
import Derived.Test.YthglgempbdaikaaGj8
namespace Go.Proofs.Ythglgempbdaikaa
open Go.RowKit

theorem StL.take {w : World} {p : Option Addr} {c m : Nat} {l : List (Nat → Int)} (h : StL w (.slice p l.length c) l) (hm : m ≤ l.length) : StL w (.slice p m c) (l.take m) := by
  obtain ⟨a, cap, hv, hn, hc⟩ := h
  simp only [Value.slice.injEq] at hv
  obtain ⟨rfl, _, rfl⟩ := hv
  have e : (l.take m).length = m := by rw [List.length_take]; omega
  refine ⟨p, c, by rw [e], by rw [e]; omega, fun h0 => ?_⟩
  rw [e] at h0 ⊢
  obtain ⟨g, off, ha, hp⟩ := hc (by omega)
  refine ⟨g, off, ha, fun j hj t ht => ?_⟩
  have e2 : (l.take m).getD j (fun _ => 0) = l.getD j (fun _ => 0) := by simp [List.getD_eq_getElem?_getD, hj]
  show _ = some (Value.int .i64 ((l.take m).getD j (fun _ => 0) t))
  rw [e2]
  exact hp j (by omega) t ht
/-- the sample -/
def glS1 : Gl := ⟨65, 512, 0, fun _ _ => 0⟩
def fS1 : Nat → Nat → Int := fun j t => if j = 0 ∧ t = 0 then 1 else 0
def glS2 : Gl := ⟨65, 512, 1, fS1⟩
def bS : Nat → Int := fun _ => 65
abbrev sAA : ByteArray := { data := #[65, 65] }
theorem byt_AA (k : Nat) (hk : k < 2) : byt sAA k = 65 := by
  have h : k = 0 ∨ k = 1 := by omega
  rcases h with rfl | rfl <;> rfl
theorem get_S1 : getE 1 (fun _ => glS1) 65 = 0 ∧ getG 1 (fun _ => glS1) 65 = glS1 := by
  have h : mayG glS1 = true := by decide
  have f : findG (fun _ => glS1) 65 1 = some 0 := rfl
  unfold getE getG
  rw [f]
  simp only [h]
  exact ⟨rfl, rfl⟩
theorem get_S2 : getE 1 (fun _ => glS2) 65 = 0 ∧ getG 1 (fun _ => glS2) 65 = glS2 := by
  have h : mayG glS2 = true := by decide
  have f : findG (fun _ => glS2) 65 1 = some 0 := rfl
  unfold getE getG
  rw [f]
  simp only [h]
  exact ⟨rfl, rfl⟩
theorem pen_S1 (k : Nat) (hk : k ≤ 2) : penK 1 (fun _ => glS1) (byt sAA) k = 512 * (k : Int) := by
  have h : k = 0 ∨ k = 1 ∨ k = 2 := by omega
  rcases h with rfl | rfl | rfl
  · rfl
  · show 0 + (getG 1 (fun _ => glS1) (byt sAA 0)).adv = _
    rw [byt_AA 0 (by omega), get_S1.2]; rfl
  · show 0 + (getG 1 (fun _ => glS1) (byt sAA 0)).adv + (getG 1 (fun _ => glS1) (byt sAA 1)).adv = _
    rw [byt_AA 0 (by omega), byt_AA 1 (by omega), get_S1.2]; rfl
abbrev eS : SE := ⟨1024, 7, 0⟩
theorem run_S : (runK eS 1 (fun _ => glS2) (byt sAA) 2).err = 0 ∧ (runK eS 1 (fun _ => glS2) (byt sAA) 2).out.length = 2 ∧ ((runK eS 1 (fun _ => glS2) (byt sAA) 2).out.getD 1 (fun _ => 0)) 1 = 519 := by
  have h1 : runK eS 1 (fun _ => glS2) (byt sAA) 1 = lettR eS ⟨0, 0, []⟩ glS2 := by
    rw [run_next (k := 0) rfl]
    · rw [byt_AA 0 (by omega), get_S2.2]; rfl
    · unfold byteE
      rw [byt_AA 0 (by omega), get_S2.1, get_S2.2]
      decide
  have h2 : runK eS 1 (fun _ => glS2) (byt sAA) 2 = lettR eS (lettR eS ⟨0, 0, []⟩ glS2) glS2 := by
    rw [run_next (k := 1) (by rw [h1]; rfl)]
    · rw [h1, byt_AA 1 (by omega), get_S2.2]
    · unfold byteE
      rw [h1, byt_AA 1 (by omega), get_S2.1, get_S2.2]
      decide
  rw [h2]
  decide
theorem font_one {w : World} {p : Option Addr} {c : Nat} (g : Gl) (h : Sts w (.slice p g.n c) g.n g.F) : FontV (w.alloc (.cells #[.int .i64 g.code, .int .i64 g.adv, .slice p g.n c] 78)) (.slice (some ⟨w.heap.size, 0, none⟩) 1 1) 1 (fun _ => g) := by
  have b := BxAt.new w [.int .i64 g.code, .int .i64 g.adv, .slice p g.n c] 78
  refine ⟨_, 1, rfl, by omega, fun _ => ⟨w.heap.size, 0, rfl, fun j hj => ?_⟩⟩
  obtain rfl : j = 0 := by omega
  exact ⟨p, c, b.2.2 0 _ rfl, b.2.2 1 _ rfl, b.2.2 2 _ rfl, h.later (below_alloc _ _)⟩
theorem sts_one (w : World) : Sts (w.alloc (.cells #[.int .i64 1, .int .i64 0, .int .i64 0, .int .i64 0, .int .i64 0, .int .i64 0, .int .i64 0] 59)) (.slice (some ⟨w.heap.size, 0, none⟩) 1 1) 1 fS1 := by
  have b := BxAt.new w [.int .i64 1, .int .i64 0, .int .i64 0, .int .i64 0, .int .i64 0, .int .i64 0, .int .i64 0] 59
  refine ⟨_, 1, rfl, by omega, fun _ => ⟨w.heap.size, 0, rfl, fun j hj t ht => ?_⟩⟩
  obtain rfl : j = 0 := by omega
  have h7 : t = 0 ∨ t = 1 ∨ t = 2 ∨ t = 3 ∨ t = 4 ∨ t = 5 ∨ t = 6 := by omega
  rcases h7 with rfl | rfl | rfl | rfl | rfl | rfl | rfl <;> exact b.2.2 _ _ rfl
theorem set_S : setE eS 1 (fun _ => glS2) (byt sAA) 2 = 0 ∧ setL eS 1 (fun _ => glS2) (byt sAA) 2 = (runK eS 1 (fun _ => glS2) (byt sAA) 2).out := by
  have hb : badE eS = false := by decide
  have e1 : setE eS 1 (fun _ => glS2) (byt sAA) 2 = 0 := by
    unfold setE
    rw [if_neg (by rw [hb]; simp)]
    exact run_S.1
  refine ⟨e1, ?_⟩
  unfold setL
  rw [if_pos e1]
set_option maxRecDepth 100000 in
set_option maxHeartbeats 3200000 in
theorem lives13 (w : World) : Calls Try.prog 19 #[] w (RetPost (.bool true) w) := by
  have W1 := Lib.hid (fun W (hW : FontV W (.slice (some ⟨w.heap.size, 0, none⟩) 1 1) 1 (fun _ => glS1)) => width_ok (.slice (some ⟨w.heap.size, 0, none⟩) 1 1) 1 (fun _ => glS1) sAA 100 W hW (by decide) (by omega) (fun k hk => by rw [byt_AA k hk]; exact get_S1.1) (fun k hk => by have h2 : k ≤ 2 := hk; rw [pen_S1 k h2]; omega))
  have eW : sclI (penK 1 (fun _ => glS1) (byt sAA) sAA.size) 100 = 100 := by
    show sclI (penK 1 (fun _ => glS1) (byt sAA) 2) 100 = 100
    rw [pen_S1 2 (by omega)]
    decide
  rw [eW] at W1
  have W2 : Hid (∀ (W : World) (v : Value), FontV W v 1 (fun _ => glS2) → Calls Try.prog 18 #[v, .string sAA, .int .i64 1024, .agg #[.int .i64 7, .int .i64 0]] W (fun e W' => Below W.heap.size W W' ∧ ∃ p c L, e = .returned (.tuple #[.slice p 2 c, .int .i64 0]) ∧ L.length = 2 ∧ (L.getD 1 (fun _ => 0)) 1 = 519 ∧ StL W' (.slice p 2 c) L)) := Lib.hid (fun W v hW => (set_any v 1 (fun _ => glS2) sAA eS W hW (by decide)).mono fun e W' h => by
    obtain ⟨hb, p, c, he, _, hs⟩ := h
    have e1 : setE eS 1 (fun _ => glS2) (byt sAA) sAA.size = 0 := set_S.1
    have e2 : setL eS 1 (fun _ => glS2) (byt sAA) sAA.size = (runK eS 1 (fun _ => glS2) (byt sAA) 2).out := set_S.2
    rw [e1, e2] at he
    rw [e2] at hs
    have e3 := run_S.2.1
    rw [e3] at he hs
    exact ⟨hb, p, c, _, he, e3, run_S.2.2, hs⟩)
  clear eW
  go_enter Try.func19, Try.ntmps19
  go_wp2_with fail
  refine (W1.out _ (font_one glS1 ⟨none, 0, rfl, by decide, fun h => by cases h⟩)).mono ?_
  rintro e w1 ⟨rfl, hb1⟩
  have B1 := Lib.hid (bthen (below_alloc _ _) hb1)
  clear hb1
  go_wp2_with fail
  have FO := font_one (w := w1.alloc (.cells #[.int .i64 1, .int .i64 0, .int .i64 0, .int .i64 0, .int .i64 0, .int .i64 0, .int .i64 0] 59)) glS2 (sts_one w1)
  have hsz : (w1.alloc (.cells #[.int .i64 1, .int .i64 0, .int .i64 0, .int .i64 0, .int .i64 0, .int .i64 0, .int .i64 0] 59)).heap.size = w1.heap.size + 1 := by simp
  rw [hsz] at FO
  refine (W2.out _ _ FO).mono ?_
  clear FO hsz
  rintro e w2 ⟨hb2, p, c, L, rfl, hL1, hL2, hs⟩
  have B2 := Lib.hid (bthen B1.out (bthen (bel2 _ _ _) hb2))
  obtain ⟨aa, cc, hv, _, hcc⟩ := hs
  simp only [Value.slice.injEq] at hv
  obtain ⟨rfl, -, -⟩ := hv
  obtain ⟨g, off, rfl, hp⟩ := hcc (by omega)
  have c1 := hp 1 (by omega) 1 (by omega)
  dsimp only at c1
  rw [hL2] at c1
  rw [Nat.one_mul] at c1
  clear hb2 hp hcc hL1 hL2 W1 W2
  go_wp2_with fail
  go_ret
  exact ⟨rfl, B2.out⟩
end Go.Proofs.Ythglgempbdaikaa
