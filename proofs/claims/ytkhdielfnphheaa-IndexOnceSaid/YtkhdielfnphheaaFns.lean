/- Contract of finds: an index finds what the reference finds. -/
import Derived.Test.YtkhdielfnphheaaRef0
import Derived.Test.YtkhdielfnphheaaAsk1
import Derived.Test.YtkhdielfnphheaaAsk2
import Derived.Test.YtkhdielfnphheaaSam
import Derived.Test.YtkhdielfnphheaaLw3
namespace Go.Proofs.Ytkhdielfnphheaa
open Go.RowKit

abbrev rvL (rv : Nat → Int) : List Value := [.int .i64 (rv 0), .int .i64 (rv 1), .int .i64 (rv 2), .int .i64 (rv 3), .int .i64 (rv 4), .int .i64 (rv 5), .int .i64 (rv 6), .int .u8 (rv 7), .int .u8 (rv 8), .int .u8 (rv 9), .int .u8 (rv 10), .int .u8 (rv 11), .int .u8 (rv 12), .int .u8 (rv 13), .int .u8 (rv 14)]
/-- what a ramp's question gave -/
def RamIs (S : Sc) (x : Int) (rv : Nat → Int) (ok : Bool) (at_ : Int) : Prop := fstI (nmR S) x S.nr = at_ ∧ ((at_ = -1 ∧ ok = false ∧ rv = fun _ => 0) ∨ ∃ p : Nat, p < S.nr ∧ at_ = p ∧ ok = true ∧ rv = S.R p)
theorem RampPost.is {S : Sc} {X : Nat} {D : Nat → Prop} {x : Int} {w w' : World} {e : Ending} (h : RampPost S X D x w e w') : FrmA w w' X ∧ IdxA S X w' ∧ ∃ rv ok, e = .returned (.tuple #[.agg (rvL rv).toArray, .bool ok]) ∧ ∃ at_, RamIs S x rv ok at_ := by
  obtain ⟨h1, ⟨D', _, h2⟩, h3⟩ := h
  refine ⟨h1, ⟨D', h2⟩, ?_⟩
  rcases h3 with ⟨h4, rfl⟩ | ⟨p, h4, h5, rfl⟩
  · exact ⟨fun _ => 0, false, rfl, -1, h4, .inl ⟨rfl, rfl, rfl⟩⟩
  · exact ⟨S.R p, true, rfl, p, h5, .inr ⟨p, h4, rfl, rfl, rfl⟩⟩
/-- what a picture's question gave -/
def PicIs (S : Sc) (x a b : Int) (q : Option Addr) (n c : Nat) (ok : Bool) (at_ : Int) (w : World) : Prop := fstI (nmP S) x S.np = at_ ∧ ((at_ = -1 ∧ ok = false ∧ a = 0 ∧ b = 0 ∧ q = none ∧ n = 0 ∧ c = 0) ∨ ∃ p : Nat, p < S.np ∧ at_ = p ∧ ok = true ∧ a = (S.P p).pw ∧ b = (S.P p).ph ∧ n = (S.P p).n ∧ Row w (.slice q n c) n 4 (pxF (S.P p).px))
theorem PicPost.is {S : Sc} {X : Nat} {x : Int} {w w' : World} {e : Ending} (h : PicPost S X x w e w') : FrmA w w' X ∧ IdxA S X w' ∧ ∃ a b q n c ok at_, e = .returned (.tuple #[.agg #[.int .i64 a, .int .i64 b, .slice q n c], .bool ok]) ∧ PicIs S x a b q n c ok at_ w' := by
  obtain ⟨h1, h2, h3⟩ := h
  refine ⟨h1, h2, ?_⟩
  rcases h3 with ⟨h4, rfl⟩ | ⟨p, q, c, h4, h5, rfl, h6⟩
  · exact ⟨0, 0, none, 0, 0, false, -1, rfl, h4, .inl ⟨rfl, rfl, rfl, rfl, rfl, rfl, rfl⟩⟩
  · exact ⟨_, _, q, _, c, true, p, rfl, h5, .inr ⟨p, h4, rfl, rfl, rfl, rfl, rfl, h6⟩⟩
/-- what a glyph's question gave -/
def GlyIs (S : Sc) (x a b : Int) (q : Option Addr) (n c : Nat) (ok : Bool) (at_ : Int) (w : World) : Prop := fstI (nmG S) x S.ng = at_ ∧ ((at_ = -1 ∧ ok = false ∧ a = 0 ∧ b = 0 ∧ q = none ∧ n = 0 ∧ c = 0) ∨ ∃ p : Nat, p < S.ng ∧ at_ = p ∧ ok = true ∧ a = (S.G p).code ∧ b = (S.G p).adv ∧ n = (S.G p).n ∧ Row w (.slice q n c) n 7 (stF (S.G p).F))
theorem GlyPost.is {S : Sc} {X : Nat} {x : Int} {w w' : World} {e : Ending} (h : GlyPost S X x w e w') : FrmA w w' X ∧ IdxA S X w' ∧ ∃ a b q n c ok at_, e = .returned (.tuple #[.agg #[.int .i64 a, .int .i64 b, .slice q n c], .bool ok]) ∧ GlyIs S x a b q n c ok at_ w' := by
  obtain ⟨h1, h2, h3⟩ := h
  refine ⟨h1, h2, ?_⟩
  rcases h3 with ⟨h4, rfl⟩ | ⟨p, q, c, h4, h5, rfl, h6⟩
  · exact ⟨0, 0, none, 0, 0, false, -1, rfl, h4, .inl ⟨rfl, rfl, rfl, rfl, rfl, rfl, rfl⟩⟩
  · exact ⟨_, _, q, _, c, true, p, rfl, h5, .inr ⟨p, h4, rfl, rfl, rfl, rfl, rfl, h6⟩⟩
set_option maxRecDepth 100000 in
set_option maxHeartbeats 6400000 in
theorem finds12 (S : Sc) (X : Nat) (s0 s1 s2 s3 s4 s5 s6 hd mt rm gl pc it : Value) (x : Int) (w0 w : World) (hD : DataV S rm gl pc w0) (hb0 : Below w0.heap.size w0 w) (hX : w0.heap.size ≤ X) (h : IdxF S X w ∨ IdxA S X w) (ok : ScOk S) :
    Calls Try.prog 12 #[.pointer (some ⟨X, 0, none⟩), .agg #[s0, s1, s2, s3, s4, s5, s6, hd, mt, rm, gl, pc, it], .int .i64 x] w (IdxPost S X (.bool true) w) := by
  obtain ⟨rp, rc, rfl⟩ : ∃ a c, rm = .slice a S.nr c := hD.1.slice
  obtain ⟨gp, gc, rfl⟩ : ∃ a c, gl = .slice a S.ng c := by obtain ⟨_, h, _⟩ := hD.2.1; exact h.slice
  obtain ⟨pp, pk, rfl⟩ : ∃ a c, pc = .slice a S.np c := by obtain ⟨_, h, _⟩ := hD.2.2; exact h.slice
  have XL : X < w.heap.size := by rcases h with h | h <;> exact h.lt
  obtain ⟨w1, hw1⟩ : ∃ w1, w1 = w.alloc (.cells #[s0, s1, s2, s3, s4, s5, s6, hd, mt, .slice rp S.nr rc, .slice gp S.ng gc, .slice pp S.np pk, it] 31) := ⟨_, rfl⟩
  obtain ⟨A, hA⟩ : ∃ A, A = w.heap.size := ⟨_, rfl⟩
  have b1 : Below w.heap.size w w1 := by rw [hw1]; exact below_alloc _ _
  have F1 : Hid (FrmA w w1 X) := Lib.hid (FrmA.of_below b1)
  have X1 : Hid (w1.heap[A]? = some (.cells #[s0, s1, s2, s3, s4, s5, s6, hd, mt, .slice rp S.nr rc, .slice gp S.ng gc, .slice pp S.np pk, it] 31 (0, 0))) := Lib.hid (by rw [hw1, hA]; exact heap_alloc_new w _)
  have XA : Hid (X < A) := Lib.hid (by rw [hA]; exact XL)
  have A1 : Hid (A < w1.heap.size) := Lib.hid (Array.getElem?_eq_some_iff.1 X1.out).1
  obtain ⟨D, hI⟩ : ∃ D, IdxFD S X D w1 ∨ IdxAD S X D w1 := by
    rcases h with ⟨D, h⟩ | ⟨D, h⟩
    · exact ⟨D, .inl (h.later b1)⟩
    · exact ⟨D, .inr (h.later b1)⟩
  have C1 := Lib.hid (ramp_any S X D x w1 hI ok)
  have DB := Lib.hid (fun (V : World) (hF : FrmA w V X) => hD.later (hb0.trans (hF.below hX hb0.size)))
  have BB := Lib.hid (fun (V : World) (hF : FrmA w V X) => hb0.trans (hF.below hX hb0.size))
  have nrb : S.nr ≤ 4000000000000 := by have := ok.br; omega
  have ngb : S.ng ≤ 4000000000000 := by have := ok.bg; omega
  have npb : S.np ≤ 4000000000000 := by have := ok.bp; omega
  have OK := Lib.hid ok
  have HW := Lib.hid (And.intro hw1 hA)
  clear hw1 hA hD hb0 hX h ok b1 XL hI
  obtain ⟨l31, hs31⟩ := Try.struct31
  have HS31 := Lib.hid hs31
  clear hs31
  go_enter Try.func12, Try.ntmps12
  go_wp2_with fail
  rw [← HW.out.2, ← HW.out.1]
  refine C1.out.mono ?_
  intro e w2 hrp
  obtain ⟨hf2, hI2, rv, okb, rfl, at1, hR⟩ := hrp.is
  have HR := Lib.hid hR
  have F2 := Lib.hid (F1.out.trans hf2)
  have I2 := Lib.hid hI2
  have X2 : Hid (w2.heap[A]? = some (.cells #[s0, s1, s2, s3, s4, s5, s6, hd, mt, .slice rp S.nr rc, .slice gp S.ng gc, .slice pp S.np pk, it] 31 (0, 0))) := Lib.hid ((hf2.block A A1.out (by have := XA.out; omega)).trans X1.out)
  have A2 : Hid (A < w2.heap.size) := Lib.hid (Nat.lt_of_lt_of_le A1.out hf2.size)
  clear hrp hf2 hI2 C1 X1 A1 F1 hR
  go_upto_region 2 with (fail)
  obtain ⟨w3, hw3⟩ : ∃ w3, w3 = w2.alloc (.cells (rvL rv).toArray 58) := ⟨_, rfl⟩
  obtain ⟨R, hRb⟩ : ∃ R, R = w2.heap.size := ⟨_, rfl⟩
  have XR : Hid (BxAt w3 R (rvL rv)) := Lib.hid (by rw [hw3, hRb]; exact BxAt.new w2 _ _)
  have b3 : Below w2.heap.size w2 w3 := by rw [hw3]; exact below_alloc _ _
  have F3 := Lib.hid (F2.out.trans (FrmA.of_below b3))
  have I3 := Lib.hid (I2.out.later b3)
  have X3 : Hid (w3.heap[A]? = some (.cells #[s0, s1, s2, s3, s4, s5, s6, hd, mt, .slice rp S.nr rc, .slice gp S.ng gc, .slice pp S.np pk, it] 31 (0, 0))) := Lib.hid ((b3.block A A2.out).trans X2.out)
  have A3 : Hid (A < w3.heap.size) := Lib.hid (Nat.lt_of_lt_of_le A2.out b3.size)
  rw [← hw3, ← hRb]
  have CR := Lib.hid (rramp17 S s0 s1 s2 s3 s4 s5 s6 hd mt it (.slice rp S.nr rc) (.slice gp S.ng gc) (.slice pp S.np pk) x w3 (DB.out w3 F3.out) OK.out)
  rw [HR.out.1] at CR
  clear hw3 hRb b3 F2 I2 X2 A2
  go_wp2_with (refine wpList_load_row (o := ⟨some 19, Op.load 31 (.tmp 4), _, _, _, _⟩) rfl 31 (.tmp 4) rfl A rfl 31 _ (0, 0) _ X3.out HS31.out rfl Try.size31 ?_)
  refine CR.out.mono ?_
  rintro e w4 ⟨rfl, hb4⟩
  have F4 := Lib.hid (F3.out.trans (FrmA.of_below hb4))
  have I4 := Lib.hid (I3.out.later hb4)
  have X4 : Hid (w4.heap[A]? = some (.cells #[s0, s1, s2, s3, s4, s5, s6, hd, mt, .slice rp S.nr rc, .slice gp S.ng gc, .slice pp S.np pk, it] 31 (0, 0))) := Lib.hid ((hb4.block A A3.out).trans X3.out)
  have A4 : Hid (A < w4.heap.size) := Lib.hid (Nat.lt_of_lt_of_le A3.out hb4.size)
  have XR4 := Lib.hid (XR.out.later hb4)
  clear hb4 CR F3 I3 X3 A3 XR
  go_upto_region 3 with (fail)
  go_cut [46] (fun s wx => s = .bool false ∧ Below w4.heap.size w4 wx)
  case first =>
    have x9 := (BxAt.of_heap X4.out).2.2 9 _ rfl
    rcases HR.out with ⟨-, ⟨rfl, rfl, rfl⟩ | ⟨p, h2, rfl, rfl, rfl⟩⟩
    · have z0 := XR4.out.2.2 0 _ rfl
      have z1 := XR4.out.2.2 1 _ rfl
      have z2 := XR4.out.2.2 2 _ rfl
      have z3 := XR4.out.2.2 3 _ rfl
      have z4 := XR4.out.2.2 4 _ rfl
      have z5 := XR4.out.2.2 5 _ rfl
      have z6 := XR4.out.2.2 6 _ rfl
      have z7 := XR4.out.2.2 7 _ rfl
      have z8 := XR4.out.2.2 8 _ rfl
      have z9 := XR4.out.2.2 9 _ rfl
      have z10 := XR4.out.2.2 10 _ rfl
      have z11 := XR4.out.2.2 11 _ rfl
      have z12 := XR4.out.2.2 12 _ rfl
      have z13 := XR4.out.2.2 13 _ rfl
      have z14 := XR4.out.2.2 14 _ rfl
      clear HR X4 XR4
      go_quiet (fail)
      all_goals
        go_wp2_with fail
        go_meet
        exact ⟨rfl, below_drewN' _ _⟩
    · obtain ⟨a, cap, he, hnn, hcell⟩ := (DB.out w4 F4.out).1
      obtain ⟨g, off, rfl, hc3⟩ := hcell (by omega)
      obtain ⟨rfl, rfl⟩ : rp = some ⟨g, off, none⟩ ∧ rc = cap := by simpa using he
      have c0 : w4.cell? ⟨g, off + p * 15, none⟩ = some (.int .i64 (S.R p 0)) := hc3 p 0 h2 (by omega)
      have c1 : w4.cell? ⟨g, off + p * 15 + 1, none⟩ = some (.int .i64 (S.R p 1)) := hc3 p 1 h2 (by omega)
      have c2 : w4.cell? ⟨g, off + p * 15 + 2, none⟩ = some (.int .i64 (S.R p 2)) := hc3 p 2 h2 (by omega)
      have c3 : w4.cell? ⟨g, off + p * 15 + 3, none⟩ = some (.int .i64 (S.R p 3)) := hc3 p 3 h2 (by omega)
      have c4 : w4.cell? ⟨g, off + p * 15 + 4, none⟩ = some (.int .i64 (S.R p 4)) := hc3 p 4 h2 (by omega)
      have c5 : w4.cell? ⟨g, off + p * 15 + 5, none⟩ = some (.int .i64 (S.R p 5)) := hc3 p 5 h2 (by omega)
      have c6 : w4.cell? ⟨g, off + p * 15 + 6, none⟩ = some (.int .i64 (S.R p 6)) := hc3 p 6 h2 (by omega)
      have c7 : w4.cell? ⟨g, off + p * 15 + 7, none⟩ = some (.int .u8 (S.R p 7)) := hc3 p 7 h2 (by omega)
      have c8 : w4.cell? ⟨g, off + p * 15 + 8, none⟩ = some (.int .u8 (S.R p 8)) := hc3 p 8 h2 (by omega)
      have c9 : w4.cell? ⟨g, off + p * 15 + 9, none⟩ = some (.int .u8 (S.R p 9)) := hc3 p 9 h2 (by omega)
      have c10 : w4.cell? ⟨g, off + p * 15 + 10, none⟩ = some (.int .u8 (S.R p 10)) := hc3 p 10 h2 (by omega)
      have c11 : w4.cell? ⟨g, off + p * 15 + 11, none⟩ = some (.int .u8 (S.R p 11)) := hc3 p 11 h2 (by omega)
      have c12 : w4.cell? ⟨g, off + p * 15 + 12, none⟩ = some (.int .u8 (S.R p 12)) := hc3 p 12 h2 (by omega)
      have c13 : w4.cell? ⟨g, off + p * 15 + 13, none⟩ = some (.int .u8 (S.R p 13)) := hc3 p 13 h2 (by omega)
      have c14 : w4.cell? ⟨g, off + p * 15 + 14, none⟩ = some (.int .u8 (S.R p 14)) := hc3 p 14 h2 (by omega)
      have z0 := XR4.out.2.2 0 _ rfl
      have z1 := XR4.out.2.2 1 _ rfl
      have z2 := XR4.out.2.2 2 _ rfl
      have z3 := XR4.out.2.2 3 _ rfl
      have z4 := XR4.out.2.2 4 _ rfl
      have z5 := XR4.out.2.2 5 _ rfl
      have z6 := XR4.out.2.2 6 _ rfl
      have z7 := XR4.out.2.2 7 _ rfl
      have z8 := XR4.out.2.2 8 _ rfl
      have z9 := XR4.out.2.2 9 _ rfl
      have z10 := XR4.out.2.2 10 _ rfl
      have z11 := XR4.out.2.2 11 _ rfl
      have z12 := XR4.out.2.2 12 _ rfl
      have z13 := XR4.out.2.2 13 _ rfl
      have z14 := XR4.out.2.2 14 _ rfl
      have pI : (p : Int) < (S.nr : Int) := by omega
      have p0 : (0 : Int) ≤ (p : Int) := by omega
      clear hc3 hcell hnn he HR X4 XR4
      go_quiet (fail)
      all_goals
        go_wp2_with fail
        go_meet
        exact ⟨rfl, below_drewN' _ _⟩
  case rest =>
    obtain ⟨rfl, hbc⟩ := hcut
    have F5 := Lib.hid (F4.out.trans (FrmA.of_below hbc))
    have I5 := Lib.hid (I4.out.later hbc)
    have X5 : Hid (wc.heap[A]? = some (.cells #[s0, s1, s2, s3, s4, s5, s6, hd, mt, .slice rp S.nr rc, .slice gp S.ng gc, .slice pp S.np pk, it] 31 (0, 0))) := Lib.hid ((hbc.block A A4.out).trans X4.out)
    have A5 : Hid (A < wc.heap.size) := Lib.hid (Nat.lt_of_lt_of_le A4.out hbc.size)
    have C2 := Lib.hid (pic_any S X x wc (.inr I5.out) OK.out)
    clear hbc F4 I4 X4 A4 XR4 HR
    go_wp2_with fail
    refine C2.out.mono ?_
    intro e w6 hp
    obtain ⟨hf6, hI6, pa, pb, q, n, c, okb2, at2, rfl, hR⟩ := hp.is
    have HR := Lib.hid hR
    have F6 := Lib.hid (F5.out.trans hf6)
    have I6 := Lib.hid hI6
    have X6 : Hid (w6.heap[A]? = some (.cells #[s0, s1, s2, s3, s4, s5, s6, hd, mt, .slice rp S.nr rc, .slice gp S.ng gc, .slice pp S.np pk, it] 31 (0, 0))) := Lib.hid ((hf6.block A A5.out (by have := XA.out; omega)).trans X5.out)
    have A6 : Hid (A < w6.heap.size) := Lib.hid (Nat.lt_of_lt_of_le A5.out hf6.size)
    clear hp hf6 hI6 C2 X5 A5 F5 I5 hR
    go_upto_region 6 with (fail)
    obtain ⟨w7, hw7⟩ : ∃ w7, w7 = w6.alloc (.cells #[.int .i64 pa, .int .i64 pb, .slice q n c] 38) := ⟨_, rfl⟩
    obtain ⟨R6, hRb⟩ : ∃ R6, R6 = w6.heap.size := ⟨_, rfl⟩
    have XR : Hid (BxAt w7 R6 [.int .i64 pa, .int .i64 pb, .slice q n c]) := Lib.hid (by rw [hw7, hRb]; exact BxAt.new w6 _ _)
    have b7 : Below w6.heap.size w6 w7 := by rw [hw7]; exact below_alloc _ _
    have F7 := Lib.hid (F6.out.trans (FrmA.of_below b7))
    have I7 := Lib.hid (I6.out.later b7)
    have X7 : Hid (w7.heap[A]? = some (.cells #[s0, s1, s2, s3, s4, s5, s6, hd, mt, .slice rp S.nr rc, .slice gp S.ng gc, .slice pp S.np pk, it] 31 (0, 0))) := Lib.hid ((b7.block A A6.out).trans X6.out)
    have A7 : Hid (A < w7.heap.size) := Lib.hid (Nat.lt_of_lt_of_le A6.out b7.size)
    have BR := Lib.hid b7
    rw [← hw7, ← hRb]
    have CR := Lib.hid (rpic19 S s0 s1 s2 s3 s4 s5 s6 hd mt it (.slice rp S.nr rc) (.slice gp S.ng gc) (.slice pp S.np pk) x w7 (DB.out w7 F7.out) OK.out)
    rw [HR.out.1] at CR
    clear hw7 hRb b7 F6 I6 X6 A6
    go_wp2_with (refine wpList_load_row (o := ⟨some 53, Op.load 31 (.tmp 4), _, _, _, _⟩) rfl 31 (.tmp 4) rfl A rfl 31 _ (0, 0) _ X7.out HS31.out rfl Try.size31 ?_)
    refine CR.out.mono ?_
    rintro e w8 ⟨rfl, hb8⟩
    have F8 := Lib.hid (F7.out.trans (FrmA.of_below hb8))
    have I8 := Lib.hid (I7.out.later hb8)
    have X8 : Hid (w8.heap[A]? = some (.cells #[s0, s1, s2, s3, s4, s5, s6, hd, mt, .slice rp S.nr rc, .slice gp S.ng gc, .slice pp S.np pk, it] 31 (0, 0))) := Lib.hid ((hb8.block A A7.out).trans X7.out)
    have A8 : Hid (A < w8.heap.size) := Lib.hid (Nat.lt_of_lt_of_le A7.out hb8.size)
    have XR8 := Lib.hid (XR.out.later hb8)
    have BR8 := Lib.hid (bthen BR.out hb8)
    clear hb8 CR F7 I7 X7 A7 XR BR
    go_upto_region 7 with (fail)
    go_cut [83] (fun s wx => s = .bool false ∧ Below w8.heap.size w8 wx)
    case first =>
      have a0 := XR8.out.2.2 0 _ rfl
      have a1 := XR8.out.2.2 1 _ rfl
      have a2 := XR8.out.2.2 2 _ rfl
      have x11 := (BxAt.of_heap X8.out).2.2 11 _ rfl
      rcases HR.out with ⟨-, ⟨rfl, rfl, rfl, rfl, rfl, rfl, rfl⟩ | ⟨p, h2, rfl, rfl, rfl, rfl, rfl, hrow⟩⟩
      · refine wp_region_held_drew (S := fun w' => w'.cell? ⟨R6, 0, none⟩ = some (.int .i64 0) ∧ w'.cell? ⟨R6, 1, none⟩ = some (.int .i64 0) ∧ w'.cell? ⟨R6, 2, none⟩ = some (.slice none 0 0)) (by kernel_rfl) ⟨a0, a1, a2⟩ (fun hSw => ?_)
        refine wpAnyH_take (i := 0) (v := ?_) rfl (by kernel_rfl) (by kernel_rfl) (by kernel_rfl) (fun _ _ _ h => h) (Or.inl ⟨by rfl, ?_⟩) hSw ?_
        rotate_left
        · (intro wS hSx; (try dsimp only at hSx); go_simp)
          all_goals with_reducible rfl
        (try simp only [Act.put, List.setIfInBounds_toArray, List.set_cons_zero, List.set_cons_succ, List.getElem_toArray, List.getElem_cons_zero])
        refine wpAnyH_take (i := 1) (v := ?_) rfl (by kernel_rfl) (by kernel_rfl) (by kernel_rfl) (fun _ _ _ h => h) (Or.inl ⟨by rfl, ?_⟩) hSw ?_
        rotate_left
        · (intro wS hSx; (try dsimp only at hSx); go_simp)
          all_goals with_reducible rfl
        (try simp only [Act.put, List.setIfInBounds_toArray, List.set_cons_zero, List.set_cons_succ, List.getElem_toArray, List.getElem_cons_succ, List.getElem_cons_zero])
        refine wpAnyH_take (i := 2) (v := ?_) rfl (by kernel_rfl) (by kernel_rfl) (by kernel_rfl) (fun _ _ _ h => h) (Or.inl ⟨by rfl, ?_⟩) hSw ?_
        rotate_left
        · (intro wS hSx; (try dsimp only at hSx); go_simp)
          all_goals with_reducible rfl
        (try simp only [Act.put, List.setIfInBounds_toArray, List.set_cons_zero, List.set_cons_succ, List.getElem_toArray, List.getElem_cons_succ, List.getElem_cons_zero])
        refine wpAnyH_take (i := 3) (v := ?_) rfl (by kernel_rfl) (by kernel_rfl) (by kernel_rfl) (fun _ _ _ h => h) (Or.inl ⟨by rfl, ?_⟩) hSw ?_
        rotate_left
        · (intro wS hSx; (try dsimp only at hSx); go_simp)
          all_goals with_reducible rfl
        (try simp only [Act.put, List.setIfInBounds_toArray, List.set_cons_zero, List.set_cons_succ, List.getElem_toArray, List.getElem_cons_succ, List.getElem_cons_zero])
        refine wpAnyH_take (i := 4) (v := ?_) rfl (by kernel_rfl) (by kernel_rfl) (by kernel_rfl) (fun _ _ _ h => h) (Or.inl ⟨by rfl, ?_⟩) hSw ?_
        rotate_left
        · (intro wS hSx; (try dsimp only at hSx); go_simp)
          all_goals with_reducible rfl
        (try simp only [Act.put, List.setIfInBounds_toArray, List.set_cons_zero, List.set_cons_succ, List.getElem_toArray, List.getElem_cons_succ, List.getElem_cons_zero])
        refine wpAnyH_take (i := 5) (v := ?_) rfl (by kernel_rfl) (by kernel_rfl) (by kernel_rfl) (fun _ _ _ h => h) (Or.inl ⟨by rfl, ?_⟩) hSw ?_
        rotate_left
        · (intro wS hSx; (try dsimp only at hSx); go_simp)
          all_goals with_reducible rfl
        (try simp only [Act.put, List.setIfInBounds_toArray, List.set_cons_zero, List.set_cons_succ, List.getElem_toArray, List.getElem_cons_succ, List.getElem_cons_zero])
        refine wpAnyH_take (i := 6) (v := ?_) rfl (by kernel_rfl) (by kernel_rfl) (by kernel_rfl) (fun _ _ _ h => h) (Or.inl ⟨by rfl, ?_⟩) hSw ?_
        rotate_left
        · (intro wS hSx; (try dsimp only at hSx); go_simp)
          all_goals with_reducible rfl
        (try simp only [Act.put, List.setIfInBounds_toArray, List.set_cons_zero, List.set_cons_succ, List.getElem_toArray, List.getElem_cons_succ, List.getElem_cons_zero])
        refine wpAnyH_take (i := 7) (v := undef) rfl (by kernel_rfl) (by kernel_rfl) (by kernel_rfl) (fun _ _ _ h => h) (Or.inr ⟨by rfl, rfl⟩) hSw ?_
        (try simp only [Act.put, List.setIfInBounds_toArray, List.set_cons_zero, List.set_cons_succ, List.getElem_toArray, List.getElem_cons_succ, List.getElem_cons_zero])
        refine wpAnyH_take (i := 8) (v := undef) rfl (by kernel_rfl) (by kernel_rfl) (by kernel_rfl) (fun _ _ _ h => h) (Or.inr ⟨by rfl, rfl⟩) hSw ?_
        (try simp only [Act.put, List.setIfInBounds_toArray, List.set_cons_zero, List.set_cons_succ, List.getElem_toArray, List.getElem_cons_succ, List.getElem_cons_zero])
        refine wpAnyH_take (i := 9) (v := undef) rfl (by kernel_rfl) (by kernel_rfl) (by kernel_rfl) (fun _ _ _ h => h) (Or.inr ⟨by rfl, rfl⟩) hSw ?_
        (try simp only [Act.put, List.setIfInBounds_toArray, List.set_cons_zero, List.set_cons_succ, List.getElem_toArray, List.getElem_cons_succ, List.getElem_cons_zero])
        refine wpAnyH_take (i := 10) (v := undef) rfl (by kernel_rfl) (by kernel_rfl) (by kernel_rfl) (fun _ _ _ h => h) (Or.inr ⟨by rfl, rfl⟩) hSw ?_
        (try simp only [Act.put, List.setIfInBounds_toArray, List.set_cons_zero, List.set_cons_succ, List.getElem_toArray, List.getElem_cons_succ, List.getElem_cons_zero])
        refine wpAnyH_take (i := 11) (v := undef) rfl (by kernel_rfl) (by kernel_rfl) (by kernel_rfl) (fun _ _ _ h => h) (Or.inr ⟨by rfl, rfl⟩) hSw ?_
        (try simp only [Act.put, List.setIfInBounds_toArray, List.set_cons_zero, List.set_cons_succ, List.getElem_toArray, List.getElem_cons_succ, List.getElem_cons_zero])
        refine wpAnyH_take (i := 12) (v := undef) rfl (by kernel_rfl) (by kernel_rfl) (by kernel_rfl) (fun _ _ _ h => h) (Or.inr ⟨by rfl, rfl⟩) hSw ?_
        (try simp only [Act.put, List.setIfInBounds_toArray, List.set_cons_zero, List.set_cons_succ, List.getElem_toArray, List.getElem_cons_succ, List.getElem_cons_zero])
        refine wpAnyH_take (i := 13) (v := undef) rfl (by kernel_rfl) (by kernel_rfl) (by kernel_rfl) (fun _ _ _ h => h) (Or.inr ⟨by rfl, rfl⟩) hSw ?_
        (try simp only [Act.put, List.setIfInBounds_toArray, List.set_cons_zero, List.set_cons_succ, List.getElem_toArray, List.getElem_cons_succ, List.getElem_cons_zero])
        refine wpAnyH_ready (rs := [14]) (by kernel_rfl) (by simp) ?_
        refine AllReadyH.cons rfl (fun KK hKK => ?_) AllReadyH.nil
        go_simp
        refine hKK.out _ _ hSw (fun hSw => ?_)
        clear hKK KK
        (try simp only [Act.put, List.setIfInBounds_toArray, List.set_cons_zero, List.set_cons_succ, List.getElem_toArray, List.getElem_cons_succ, List.getElem_cons_zero])
        refine wpAnyH_take (i := 15) (v := undef) rfl (by kernel_rfl) (by kernel_rfl) (by kernel_rfl) (fun _ _ _ h => h) (Or.inr ⟨by rfl, rfl⟩) hSw ?_
        (try simp only [Act.put, List.setIfInBounds_toArray, List.set_cons_zero, List.set_cons_succ, List.getElem_toArray, List.getElem_cons_succ, List.getElem_cons_zero])
        refine wpAnyH_take (i := 16) (v := ?_) rfl (by kernel_rfl) (by kernel_rfl) (by kernel_rfl) (fun _ _ _ h => h) (Or.inl ⟨by rfl, ?_⟩) hSw ?_
        rotate_left
        · (intro wS hSx; (try dsimp only at hSx); go_simp)
          all_goals with_reducible rfl
        (try simp only [Act.put, List.setIfInBounds_toArray, List.set_cons_zero, List.set_cons_succ, List.getElem_toArray, List.getElem_cons_succ, List.getElem_cons_zero])
        refine wpAnyH_take (i := 17) (v := ?_) rfl (by kernel_rfl) (by kernel_rfl) (by kernel_rfl) (fun _ _ _ h => h) (Or.inl ⟨by rfl, ?_⟩) hSw ?_
        rotate_left
        · (intro wS hSx; (try dsimp only at hSx); go_simp)
          all_goals with_reducible rfl
        (try simp only [Act.put, List.setIfInBounds_toArray, List.set_cons_zero, List.set_cons_succ, List.getElem_toArray, List.getElem_cons_succ, List.getElem_cons_zero])
        refine wpAnyH_take (i := 18) (v := ?_) rfl (by kernel_rfl) (by kernel_rfl) (by kernel_rfl) (fun _ _ _ h => h) (Or.inl ⟨by rfl, ?_⟩) hSw ?_
        rotate_left
        · (intro wS hSx; (try dsimp only at hSx); go_simp)
          all_goals with_reducible rfl
        (try simp only [Act.put, List.setIfInBounds_toArray, List.set_cons_zero, List.set_cons_succ, List.getElem_toArray, List.getElem_cons_succ, List.getElem_cons_zero])
        refine wpAnyH_take (i := 19) (v := ?_) rfl (by kernel_rfl) (by kernel_rfl) (by kernel_rfl) (fun _ _ _ h => h) (Or.inl ⟨by rfl, ?_⟩) hSw ?_
        rotate_left
        · (intro wS hSx; (try dsimp only at hSx); go_simp)
          all_goals with_reducible rfl
        (try simp only [Act.put, List.setIfInBounds_toArray, List.set_cons_zero, List.set_cons_succ, List.getElem_toArray, List.getElem_cons_succ, List.getElem_cons_zero])
        refine wpAnyH_take (i := 20) (v := ?_) rfl (by kernel_rfl) (by kernel_rfl) (by kernel_rfl) (fun _ _ _ h => h) (Or.inl ⟨by rfl, ?_⟩) hSw ?_
        rotate_left
        · (intro wS hSx; (try dsimp only at hSx); go_simp)
          all_goals with_reducible rfl
        (try simp only [Act.put, List.setIfInBounds_toArray, List.set_cons_zero, List.set_cons_succ, List.getElem_toArray, List.getElem_cons_succ, List.getElem_cons_zero])
        refine wpAnyH_take (i := 21) (v := ?_) rfl (by kernel_rfl) (by kernel_rfl) (by kernel_rfl) (fun _ _ _ h => h) (Or.inl ⟨by rfl, ?_⟩) hSw ?_
        rotate_left
        · (intro wS hSx; (try dsimp only at hSx); go_simp)
          all_goals with_reducible rfl
        (try simp only [Act.put, List.setIfInBounds_toArray, List.set_cons_zero, List.set_cons_succ, List.getElem_toArray, List.getElem_cons_succ, List.getElem_cons_zero])
        refine wpAnyH_take (i := 22) (v := ?_) rfl (by kernel_rfl) (by kernel_rfl) (by kernel_rfl) (fun _ _ _ h => h) (Or.inl ⟨by rfl, ?_⟩) hSw ?_
        rotate_left
        · (intro wS hSx; (try dsimp only at hSx); go_simp)
          all_goals with_reducible rfl
        (try simp only [Act.put, List.setIfInBounds_toArray, List.set_cons_zero, List.set_cons_succ, List.getElem_toArray, List.getElem_cons_succ, List.getElem_cons_zero])
        refine wpAnyH_take (i := 23) (v := ?_) rfl (by kernel_rfl) (by kernel_rfl) (by kernel_rfl) (fun _ _ _ h => h) (Or.inl ⟨by rfl, ?_⟩) hSw ?_
        rotate_left
        · (intro wS hSx; (try dsimp only at hSx); go_simp)
          all_goals with_reducible rfl
        (try simp only [Act.put, List.setIfInBounds_toArray, List.set_cons_zero, List.set_cons_succ, List.getElem_toArray, List.getElem_cons_succ, List.getElem_cons_zero])
        refine wpAnyH_ready (rs := [24]) (by kernel_rfl) (by simp) ?_
        refine AllReadyH.cons rfl (fun KK hKK => ?_) AllReadyH.nil
        go_simp
        refine (rsame22 0 0 none none 0 0 0 (fun _ _ => 0) w8.drew (Row.nil _ _ _) (Row.nil _ _ _) (by decide)).mono ?_
        rintro e v2 ⟨rfl, hbd⟩
        have hb2 : Below w8.heap.size w8 v2 := bel_drew hbd
        refine hKK.out _ _ ⟨cell_later hb2 a0, cell_later hb2 a1, cell_later hb2 a2⟩ (fun hSw => ?_)
        clear hKK KK
        (try simp only [Act.put, List.setIfInBounds_toArray, List.set_cons_zero, List.set_cons_succ, List.getElem_toArray, List.getElem_cons_succ, List.getElem_cons_zero])
        refine wpAnyH_take (i := 25) (v := ?_) rfl (by kernel_rfl) (by kernel_rfl) (by kernel_rfl) (fun _ _ _ h => h) (Or.inl ⟨by rfl, ?_⟩) hSw ?_
        rotate_left
        · (intro wS hSx; (try dsimp only at hSx); go_simp)
          all_goals with_reducible rfl
        (try simp only [Act.put, List.setIfInBounds_toArray, List.set_cons_zero, List.set_cons_succ, List.getElem_toArray, List.getElem_cons_succ, List.getElem_cons_zero])
        refine wpAnyH_take (i := 26) (v := ?_) rfl (by kernel_rfl) (by kernel_rfl) (by kernel_rfl) (fun _ _ _ h => h) (Or.inl ⟨by rfl, ?_⟩) hSw ?_
        rotate_left
        · (intro wS hSx; (try dsimp only at hSx); go_simp)
          all_goals with_reducible rfl
        (try simp only [Act.put, List.setIfInBounds_toArray, List.set_cons_zero, List.set_cons_succ, List.getElem_toArray, List.getElem_cons_succ, List.getElem_cons_zero])
        refine wpAnyH_take (i := 27) (v := ?_) rfl (by kernel_rfl) (by kernel_rfl) (by kernel_rfl) (fun _ _ _ h => h) (Or.inl ⟨by rfl, ?_⟩) hSw ?_
        rotate_left
        · (intro wS hSx; (try dsimp only at hSx); go_simp)
          all_goals with_reducible rfl
        (try simp only [Act.put, List.setIfInBounds_toArray, List.set_cons_zero, List.set_cons_succ, List.getElem_toArray, List.getElem_cons_succ, List.getElem_cons_zero])
        refine wpAnyH_done (by kernel_rfl) ?_ _
        clear hSw a0 a1 a2 x11
        go_wp2_with fail
        go_meet
        exact ⟨rfl, hb2⟩
      · obtain ⟨_, _, sv, hr, hst⟩ := DB.out w8 F8.out
        obtain ⟨a, cap, he, hnn, hcell⟩ := hr
        obtain ⟨g, off, rfl, hc3⟩ := hcell (by omega)
        obtain ⟨rfl, rfl⟩ : pp = some ⟨g, off, none⟩ ∧ pk = cap := by simpa using he
        obtain ⟨sp, sc, hs⟩ := (hst p h2).slice
        have ST := Lib.hid (hst p h2)
        rw [hs] at ST
        have RW := Lib.hid (hrow.later BR8.out)
        have c1 : w8.cell? ⟨g, off + p * 4 + 1, none⟩ = some (.int .i64 (S.P p).pw) := hc3 p 1 h2 (by omega)
        have c2 : w8.cell? ⟨g, off + p * 4 + 1 + 1, none⟩ = some (.int .i64 (S.P p).ph) := by rw [show off + p * 4 + 1 + 1 = off + p * 4 + 2 by omega]; exact hc3 p 2 h2 (by omega)
        have c3 : w8.cell? ⟨g, off + p * 4 + 1 + 2, none⟩ = some (.slice sp (S.P p).n sc) := by rw [← hs, show off + p * 4 + 1 + 2 = off + p * 4 + 3 by omega]; exact hc3 p 3 h2 (by omega)
        have pI : (p : Int) < (S.np : Int) := by omega
        have p0 : (0 : Int) ≤ (p : Int) := by omega
        have CB := OK.out.cp p h2
        clear hc3 hcell hnn he hst hrow hs HR
        refine wp_region_held_drew (S := fun w' => (w'.cell? ⟨R6, 0, none⟩ = some (.int .i64 (S.P p).pw) ∧ w'.cell? ⟨R6, 1, none⟩ = some (.int .i64 (S.P p).ph) ∧ w'.cell? ⟨R6, 2, none⟩ = some (.slice q (S.P p).n c)) ∧ w'.cell? ⟨A, 11, none⟩ = some (.slice (some ⟨g, off, none⟩) S.np pk) ∧ w'.cell? ⟨g, off + p * 4 + 1, none⟩ = some (.int .i64 (S.P p).pw) ∧ w'.cell? ⟨g, off + p * 4 + 1 + 1, none⟩ = some (.int .i64 (S.P p).ph) ∧ w'.cell? ⟨g, off + p * 4 + 1 + 2, none⟩ = some (.slice sp (S.P p).n sc)) (by kernel_rfl) ⟨⟨a0, a1, a2⟩, x11, c1, c2, c3⟩ (fun hSw => ?_)
        refine wpAnyH_take (i := 0) (v := ?_) rfl (by kernel_rfl) (by kernel_rfl) (by kernel_rfl) (fun _ _ _ h => h) (Or.inl ⟨by rfl, ?_⟩) hSw ?_
        rotate_left
        · (intro wS hSx; (try dsimp only at hSx); go_simp)
          all_goals with_reducible rfl
        (try simp only [Act.put, List.setIfInBounds_toArray, List.set_cons_zero, List.set_cons_succ, List.getElem_toArray, List.getElem_cons_zero])
        refine wpAnyH_take (i := 1) (v := ?_) rfl (by kernel_rfl) (by kernel_rfl) (by kernel_rfl) (fun _ _ _ h => h) (Or.inl ⟨by rfl, ?_⟩) hSw ?_
        rotate_left
        · (intro wS hSx; (try dsimp only at hSx); go_simp)
          all_goals with_reducible rfl
        (try simp only [Act.put, List.setIfInBounds_toArray, List.set_cons_zero, List.set_cons_succ, List.getElem_toArray, List.getElem_cons_succ, List.getElem_cons_zero])
        refine wpAnyH_take (i := 2) (v := ?_) rfl (by kernel_rfl) (by kernel_rfl) (by kernel_rfl) (fun _ _ _ h => h) (Or.inl ⟨by rfl, ?_⟩) hSw ?_
        rotate_left
        · (intro wS hSx; (try dsimp only at hSx); go_simp)
          all_goals with_reducible rfl
        (try simp only [Act.put, List.setIfInBounds_toArray, List.set_cons_zero, List.set_cons_succ, List.getElem_toArray, List.getElem_cons_succ, List.getElem_cons_zero])
        refine wpAnyH_take (i := 3) (v := ?_) rfl (by kernel_rfl) (by kernel_rfl) (by kernel_rfl) (fun _ _ _ h => h) (Or.inl ⟨by rfl, ?_⟩) hSw ?_
        rotate_left
        · (intro wS hSx; (try dsimp only at hSx); go_simp)
          all_goals with_reducible rfl
        (try simp only [Act.put, List.setIfInBounds_toArray, List.set_cons_zero, List.set_cons_succ, List.getElem_toArray, List.getElem_cons_succ, List.getElem_cons_zero])
        refine wpAnyH_take (i := 4) (v := ?_) rfl (by kernel_rfl) (by kernel_rfl) (by kernel_rfl) (fun _ _ _ h => h) (Or.inl ⟨by rfl, ?_⟩) hSw ?_
        rotate_left
        · (intro wS hSx; (try dsimp only at hSx); go_simp)
          all_goals with_reducible rfl
        (try simp only [Act.put, List.setIfInBounds_toArray, List.set_cons_zero, List.set_cons_succ, List.getElem_toArray, List.getElem_cons_succ, List.getElem_cons_zero])
        refine wpAnyH_take (i := 5) (v := ?_) rfl (by kernel_rfl) (by kernel_rfl) (by kernel_rfl) (fun _ _ _ h => h) (Or.inl ⟨by rfl, ?_⟩) hSw ?_
        rotate_left
        · (intro wS hSx; (try dsimp only at hSx); go_simp)
          all_goals with_reducible rfl
        (try simp only [Act.put, List.setIfInBounds_toArray, List.set_cons_zero, List.set_cons_succ, List.getElem_toArray, List.getElem_cons_succ, List.getElem_cons_zero])
        refine wpAnyH_take (i := 6) (v := ?_) rfl (by kernel_rfl) (by kernel_rfl) (by kernel_rfl) (fun _ _ _ h => h) (Or.inl ⟨by rfl, ?_⟩) hSw ?_
        rotate_left
        · (intro wS hSx; (try dsimp only at hSx); go_simp)
          all_goals with_reducible rfl
        (try simp only [Act.put, List.setIfInBounds_toArray, List.set_cons_zero, List.set_cons_succ, List.getElem_toArray, List.getElem_cons_succ, List.getElem_cons_zero])
        refine wpAnyH_take (i := 7) (v := ?_) rfl (by kernel_rfl) (by kernel_rfl) (by kernel_rfl) (fun _ _ _ h => h) (Or.inl ⟨by rfl, ?_⟩) hSw ?_
        rotate_left
        · (intro wS hSx; (try dsimp only at hSx); go_simp)
          all_goals with_reducible rfl
        (try simp only [Act.put, List.setIfInBounds_toArray, List.set_cons_zero, List.set_cons_succ, List.getElem_toArray, List.getElem_cons_succ, List.getElem_cons_zero])
        refine wpAnyH_take (i := 8) (v := ?_) rfl (by kernel_rfl) (by kernel_rfl) (by kernel_rfl) (fun _ _ _ h => h) (Or.inl ⟨by rfl, ?_⟩) hSw ?_
        rotate_left
        · (intro wS hSx; (try dsimp only at hSx); go_simp)
          all_goals with_reducible rfl
        (try simp only [Act.put, List.setIfInBounds_toArray, List.set_cons_zero, List.set_cons_succ, List.getElem_toArray, List.getElem_cons_succ, List.getElem_cons_zero])
        refine wpAnyH_take (i := 9) (v := ?_) rfl (by kernel_rfl) (by kernel_rfl) (by kernel_rfl) (fun _ _ _ h => h) (Or.inl ⟨by rfl, ?_⟩) hSw ?_
        rotate_left
        · (intro wS hSx; (try dsimp only at hSx); go_simp)
          all_goals with_reducible rfl
        (try simp only [Act.put, List.setIfInBounds_toArray, List.set_cons_zero, List.set_cons_succ, List.getElem_toArray, List.getElem_cons_succ, List.getElem_cons_zero])
        refine wpAnyH_take (i := 10) (v := ?_) rfl (by kernel_rfl) (by kernel_rfl) (by kernel_rfl) (fun _ _ _ h => h) (Or.inl ⟨by rfl, ?_⟩) hSw ?_
        rotate_left
        · (intro wS hSx; (try dsimp only at hSx); go_simp)
          all_goals with_reducible rfl
        (try simp only [Act.put, List.setIfInBounds_toArray, List.set_cons_zero, List.set_cons_succ, List.getElem_toArray, List.getElem_cons_succ, List.getElem_cons_zero])
        refine wpAnyH_take (i := 11) (v := ?_) rfl (by kernel_rfl) (by kernel_rfl) (by kernel_rfl) (fun _ _ _ h => h) (Or.inl ⟨by rfl, ?_⟩) hSw ?_
        rotate_left
        · (intro wS hSx; (try dsimp only at hSx); go_simp)
          all_goals with_reducible rfl
        (try simp only [Act.put, List.setIfInBounds_toArray, List.set_cons_zero, List.set_cons_succ, List.getElem_toArray, List.getElem_cons_succ, List.getElem_cons_zero])
        refine wpAnyH_take (i := 12) (v := ?_) rfl (by kernel_rfl) (by kernel_rfl) (by kernel_rfl) (fun _ _ _ h => h) (Or.inl ⟨by rfl, ?_⟩) hSw ?_
        rotate_left
        · (intro wS hSx; (try dsimp only at hSx); go_simp)
          all_goals with_reducible rfl
        (try simp only [Act.put, List.setIfInBounds_toArray, List.set_cons_zero, List.set_cons_succ, List.getElem_toArray, List.getElem_cons_succ, List.getElem_cons_zero])
        refine wpAnyH_take (i := 13) (v := ?_) rfl (by kernel_rfl) (by kernel_rfl) (by kernel_rfl) (fun _ _ _ h => h) (Or.inl ⟨by rfl, ?_⟩) hSw ?_
        rotate_left
        · (intro wS hSx; (try dsimp only at hSx); go_simp)
          all_goals with_reducible rfl
        (try simp only [Act.put, List.setIfInBounds_toArray, List.set_cons_zero, List.set_cons_succ, List.getElem_toArray, List.getElem_cons_succ, List.getElem_cons_zero])
        refine wpAnyH_ready (rs := [14]) (by kernel_rfl) (by simp) ?_
        refine AllReadyH.cons rfl (fun KK hKK => ?_) AllReadyH.nil
        go_simp
        refine (rsame22 (S.P p).pw (S.P p).ph q sp c sc (S.P p).n (S.P p).px w8.drew (RW.out.later (Below.refl _ _).drew) (ST.out.later (Below.refl _ _).drew) (by omega)).mono ?_
        rintro e v2 ⟨rfl, hbd⟩
        have hb2 : Below w8.heap.size w8 v2 := bel_drew hbd
        refine hKK.out _ _ ⟨⟨cell_later hb2 a0, cell_later hb2 a1, cell_later hb2 a2⟩, cell_later hb2 x11, cell_later hb2 c1, cell_later hb2 c2, cell_later hb2 c3⟩ (fun hSw => ?_)
        clear hKK KK
        (try simp only [Act.put, List.setIfInBounds_toArray, List.set_cons_zero, List.set_cons_succ, List.getElem_toArray, List.getElem_cons_succ, List.getElem_cons_zero])
        refine wpAnyH_take (i := 15) (v := ?_) rfl (by kernel_rfl) (by kernel_rfl) (by kernel_rfl) (fun _ _ _ h => h) (Or.inl ⟨by rfl, ?_⟩) hSw ?_
        rotate_left
        · (intro wS hSx; (try dsimp only at hSx); go_simp)
          all_goals with_reducible rfl
        (try simp only [Act.put, List.setIfInBounds_toArray, List.set_cons_zero, List.set_cons_succ, List.getElem_toArray, List.getElem_cons_succ, List.getElem_cons_zero])
        refine wpAnyH_take (i := 16) (v := ?_) rfl (by kernel_rfl) (by kernel_rfl) (by kernel_rfl) (fun _ _ _ h => h) (Or.inl ⟨by rfl, ?_⟩) hSw ?_
        rotate_left
        · (intro wS hSx; (try dsimp only at hSx); go_simp)
          all_goals with_reducible rfl
        (try simp only [Act.put, List.setIfInBounds_toArray, List.set_cons_zero, List.set_cons_succ, List.getElem_toArray, List.getElem_cons_succ, List.getElem_cons_zero])
        refine wpAnyH_take (i := 17) (v := ?_) rfl (by kernel_rfl) (by kernel_rfl) (by kernel_rfl) (fun _ _ _ h => h) (Or.inl ⟨by rfl, ?_⟩) hSw ?_
        rotate_left
        · (intro wS hSx; (try dsimp only at hSx); go_simp)
          all_goals with_reducible rfl
        (try simp only [Act.put, List.setIfInBounds_toArray, List.set_cons_zero, List.set_cons_succ, List.getElem_toArray, List.getElem_cons_succ, List.getElem_cons_zero])
        refine wpAnyH_take (i := 18) (v := ?_) rfl (by kernel_rfl) (by kernel_rfl) (by kernel_rfl) (fun _ _ _ h => h) (Or.inl ⟨by rfl, ?_⟩) hSw ?_
        rotate_left
        · (intro wS hSx; (try dsimp only at hSx); go_simp)
          all_goals with_reducible rfl
        (try simp only [Act.put, List.setIfInBounds_toArray, List.set_cons_zero, List.set_cons_succ, List.getElem_toArray, List.getElem_cons_succ, List.getElem_cons_zero])
        refine wpAnyH_take (i := 19) (v := ?_) rfl (by kernel_rfl) (by kernel_rfl) (by kernel_rfl) (fun _ _ _ h => h) (Or.inl ⟨by rfl, ?_⟩) hSw ?_
        rotate_left
        · (intro wS hSx; (try dsimp only at hSx); go_simp)
          all_goals with_reducible rfl
        (try simp only [Act.put, List.setIfInBounds_toArray, List.set_cons_zero, List.set_cons_succ, List.getElem_toArray, List.getElem_cons_succ, List.getElem_cons_zero])
        refine wpAnyH_take (i := 20) (v := ?_) rfl (by kernel_rfl) (by kernel_rfl) (by kernel_rfl) (fun _ _ _ h => h) (Or.inl ⟨by rfl, ?_⟩) hSw ?_
        rotate_left
        · (intro wS hSx; (try dsimp only at hSx); go_simp)
          all_goals with_reducible rfl
        (try simp only [Act.put, List.setIfInBounds_toArray, List.set_cons_zero, List.set_cons_succ, List.getElem_toArray, List.getElem_cons_succ, List.getElem_cons_zero])
        refine wpAnyH_take (i := 21) (v := ?_) rfl (by kernel_rfl) (by kernel_rfl) (by kernel_rfl) (fun _ _ _ h => h) (Or.inl ⟨by rfl, ?_⟩) hSw ?_
        rotate_left
        · (intro wS hSx; (try dsimp only at hSx); go_simp)
          all_goals with_reducible rfl
        (try simp only [Act.put, List.setIfInBounds_toArray, List.set_cons_zero, List.set_cons_succ, List.getElem_toArray, List.getElem_cons_succ, List.getElem_cons_zero])
        refine wpAnyH_take (i := 22) (v := undef) rfl (by kernel_rfl) (by kernel_rfl) (by kernel_rfl) (fun _ _ _ h => h) (Or.inr ⟨by rfl, rfl⟩) hSw ?_
        (try simp only [Act.put, List.setIfInBounds_toArray, List.set_cons_zero, List.set_cons_succ, List.getElem_toArray, List.getElem_cons_succ, List.getElem_cons_zero])
        refine wpAnyH_take (i := 23) (v := undef) rfl (by kernel_rfl) (by kernel_rfl) (by kernel_rfl) (fun _ _ _ h => h) (Or.inr ⟨by rfl, rfl⟩) hSw ?_
        (try simp only [Act.put, List.setIfInBounds_toArray, List.set_cons_zero, List.set_cons_succ, List.getElem_toArray, List.getElem_cons_succ, List.getElem_cons_zero])
        refine wpAnyH_ready (rs := [24]) (by kernel_rfl) (by simp) ?_
        refine AllReadyH.cons rfl (fun KK hKK => ?_) AllReadyH.nil
        go_simp
        refine hKK.out _ _ hSw (fun hSw => ?_)
        clear hKK KK
        (try simp only [Act.put, List.setIfInBounds_toArray, List.set_cons_zero, List.set_cons_succ, List.getElem_toArray, List.getElem_cons_succ, List.getElem_cons_zero])
        refine wpAnyH_take (i := 25) (v := undef) rfl (by kernel_rfl) (by kernel_rfl) (by kernel_rfl) (fun _ _ _ h => h) (Or.inr ⟨by rfl, rfl⟩) hSw ?_
        (try simp only [Act.put, List.setIfInBounds_toArray, List.set_cons_zero, List.set_cons_succ, List.getElem_toArray, List.getElem_cons_succ, List.getElem_cons_zero])
        refine wpAnyH_take (i := 26) (v := ?_) rfl (by kernel_rfl) (by kernel_rfl) (by kernel_rfl) (fun _ _ _ h => h) (Or.inl ⟨by rfl, ?_⟩) hSw ?_
        rotate_left
        · (intro wS hSx; (try dsimp only at hSx); go_simp)
          all_goals with_reducible rfl
        (try simp only [Act.put, List.setIfInBounds_toArray, List.set_cons_zero, List.set_cons_succ, List.getElem_toArray, List.getElem_cons_succ, List.getElem_cons_zero])
        refine wpAnyH_take (i := 27) (v := ?_) rfl (by kernel_rfl) (by kernel_rfl) (by kernel_rfl) (fun _ _ _ h => h) (Or.inl ⟨by rfl, ?_⟩) hSw ?_
        rotate_left
        · (intro wS hSx; (try dsimp only at hSx); go_simp)
          all_goals with_reducible rfl
        (try simp only [Act.put, List.setIfInBounds_toArray, List.set_cons_zero, List.set_cons_succ, List.getElem_toArray, List.getElem_cons_succ, List.getElem_cons_zero])
        refine wpAnyH_done (by kernel_rfl) ?_ _
        clear hSw a0 a1 a2 x11
        go_wp2_with fail
        go_meet
        exact ⟨rfl, hb2⟩
    case rest =>
      obtain ⟨rfl, hbc⟩ := hcut
      have F9 := Lib.hid (F8.out.trans (FrmA.of_below hbc))
      have I9 := Lib.hid (I8.out.later hbc)
      have X9 : Hid (wc.heap[A]? = some (.cells #[s0, s1, s2, s3, s4, s5, s6, hd, mt, .slice rp S.nr rc, .slice gp S.ng gc, .slice pp S.np pk, it] 31 (0, 0))) := Lib.hid ((hbc.block A A8.out).trans X8.out)
      have A9 : Hid (A < wc.heap.size) := Lib.hid (Nat.lt_of_lt_of_le A8.out hbc.size)
      have C3 := Lib.hid (gly_any S X x wc (.inr I9.out) OK.out)
      clear hbc F8 I8 X8 A8 XR8 BR8 HR
      as_aux_lemma =>
      go_wp2_with fail
      refine C3.out.mono ?_
      intro e w10 hp
      obtain ⟨hf10, hI10, ga, gb, gq, gn, gk, okb3, at3, rfl, hR⟩ := hp.is
      have HR := Lib.hid hR
      have F10 := Lib.hid (F9.out.trans hf10)
      have I10 := Lib.hid hI10
      have X10 : Hid (w10.heap[A]? = some (.cells #[s0, s1, s2, s3, s4, s5, s6, hd, mt, .slice rp S.nr rc, .slice gp S.ng gc, .slice pp S.np pk, it] 31 (0, 0))) := Lib.hid ((hf10.block A A9.out (by have := XA.out; omega)).trans X9.out)
      have A10 : Hid (A < w10.heap.size) := Lib.hid (Nat.lt_of_lt_of_le A9.out hf10.size)
      clear hp hf10 hI10 C3 X9 A9 F9 I9 hR
      go_upto_region 10 with (fail)
      obtain ⟨w11, hw11⟩ : ∃ w11, w11 = w10.alloc (.cells #[.int .i64 ga, .int .i64 gb, .slice gq gn gk] 66) := ⟨_, rfl⟩
      obtain ⟨R10, hRb⟩ : ∃ R10, R10 = w10.heap.size := ⟨_, rfl⟩
      have XR : Hid (BxAt w11 R10 [.int .i64 ga, .int .i64 gb, .slice gq gn gk]) := Lib.hid (by rw [hw11, hRb]; exact BxAt.new w10 _ _)
      have b11 : Below w10.heap.size w10 w11 := by rw [hw11]; exact below_alloc _ _
      have F11 := Lib.hid (F10.out.trans (FrmA.of_below b11))
      have I11 := Lib.hid (I10.out.later b11)
      have X11 : Hid (w11.heap[A]? = some (.cells #[s0, s1, s2, s3, s4, s5, s6, hd, mt, .slice rp S.nr rc, .slice gp S.ng gc, .slice pp S.np pk, it] 31 (0, 0))) := Lib.hid ((b11.block A A10.out).trans X10.out)
      have A11 : Hid (A < w11.heap.size) := Lib.hid (Nat.lt_of_lt_of_le A10.out b11.size)
      have BR := Lib.hid b11
      rw [← hw11, ← hRb]
      have CR := Lib.hid (rfind21 S (.slice rp S.nr rc) (.slice gp S.ng gc) (.slice pp S.np pk) x w11 (DB.out w11 F11.out) OK.out)
      rw [HR.out.1] at CR
      have x10 := (BxAt.of_heap X11.out).2.2 10 _ rfl
      clear hw11 hRb b11 F10 I10 X10 A10
      go_wp2_with fail
      refine CR.out.mono ?_
      rintro e w12 ⟨rfl, hb12⟩
      have F12 := Lib.hid (F11.out.trans (FrmA.of_below hb12))
      have I12 := Lib.hid (I11.out.later hb12)
      have X12 : Hid (w12.heap[A]? = some (.cells #[s0, s1, s2, s3, s4, s5, s6, hd, mt, .slice rp S.nr rc, .slice gp S.ng gc, .slice pp S.np pk, it] 31 (0, 0))) := Lib.hid ((hb12.block A A11.out).trans X11.out)
      have XR12 := Lib.hid (XR.out.later hb12)
      have BR12 := Lib.hid (bthen BR.out hb12)
      clear hb12 CR F11 I11 X11 A11 XR BR x10
      go_upto_region 12 with (fail)
      obtain ⟨w13, hw13⟩ : ∃ w13, w13 = w12.alloc (.cells three.toArray 66) := ⟨_, rfl⟩
      obtain ⟨Q, hQ⟩ : ∃ Q, Q = w12.heap.size := ⟨_, rfl⟩
      have XQ : Hid (BxAt w13 Q three) := Lib.hid (by rw [hw13, hQ]; exact BxAt.new w12 _ _)
      have b13 : Below w12.heap.size w12 w13 := by rw [hw13]; exact below_alloc _ _
      have F13 := Lib.hid (F12.out.trans (FrmA.of_below b13))
      have I13 := Lib.hid (I12.out.later b13)
      have x10 := (BxAt.of_heap (((b13.block A (Array.getElem?_eq_some_iff.1 X12.out).1).trans X12.out))).2.2 10 _ rfl
      have XR13 := Lib.hid (XR12.out.later b13)
      have BR13 := Lib.hid (bthen BR12.out b13)
      have QR : Hid (R10 < Q) := Lib.hid (by rw [hQ]; exact XR12.out.1)
      have QA : Hid (w.heap.size ≤ Q ∧ X < Q ∧ w12.heap.size ≤ Q) := Lib.hid (by rw [hQ]; exact ⟨F12.out.size, I12.out.lt, Nat.le_refl _⟩)
      have B13 := Lib.hid b13
      rw [← hw13, ← hQ]
      clear hw13 hQ b13 X12 XR12
      rcases HR.out with ⟨-, ⟨rfl, rfl, rfl, rfl, rfl, rfl, rfl⟩ | ⟨p, h2, rfl, rfl, rfl, rfl, rfl, hrow⟩⟩
      · clear HR x10 BR12 BR13 F12 I12 B13
        have q0 := XQ.out.2.2 0 _ rfl
        have q1 := XQ.out.2.2 1 _ rfl
        have q2 := XQ.out.2.2 2 _ rfl
        have r0 := XR13.out.2.2 0 _ rfl
        have r1 := XR13.out.2.2 1 _ rfl
        have r2 := XR13.out.2.2 2 _ rfl
        go_wp2_with fail
        refine (steps30 (.slice none 0 0) (.slice none 0 0) 0 (fun _ _ => 0) w13 (Row.nil _ _ _) (Row.nil _ _ _) (by omega)).mono ?_
        rintro e w14 ⟨rfl, m, rfl⟩
        clear q0 q1 q2 r0 r1 r2
        go_wp2_with fail
        go_ret
        exact ⟨rfl, F13.out.trans (FrmA.of_below (below_drewN' _ _)), I13.out.later (below_drewN' _ _)⟩
      · obtain ⟨_, ⟨sv, hr, hst⟩, _⟩ := DB.out w12 F12.out
        obtain ⟨a, cap, he, hnn, hcell⟩ := hr.later B13.out
        obtain ⟨g, off, rfl, hc3⟩ := hcell (by omega)
        obtain ⟨rfl, rfl⟩ : gp = some ⟨g, off, none⟩ ∧ gc = cap := by simpa using he
        obtain ⟨sp, sc, hs⟩ := (hst p h2).slice
        have ST := Lib.hid (hst p h2)
        rw [hs] at ST
        have CB := OK.out.cg p h2
        have RW := Lib.hid hrow
        have c0 : w13.cell? ⟨g, off + p * 3, none⟩ = some (.int .i64 (S.G p).code) := hc3 p 0 h2 (by omega)
        have c1 : w13.cell? ⟨g, off + p * 3 + 1, none⟩ = some (.int .i64 (S.G p).adv) := hc3 p 1 h2 (by omega)
        have c2 : w13.cell? ⟨g, off + p * 3 + 2, none⟩ = some (.slice sp (S.G p).n sc) := by rw [← hs]; exact hc3 p 2 h2 (by omega)
        have pI : (p : Int) < (S.ng : Int) := by omega
        have p0 : (0 : Int) ≤ (p : Int) := by omega
        have q0 := XQ.out.2.2 0 _ rfl
        have q1 := XQ.out.2.2 1 _ rfl
        have q2 := XQ.out.2.2 2 _ rfl
        have qf := XQ.out.2.1
        have qz := XQ.out.1
        clear hc3 hcell hnn he hst hrow hs HR
        go_upto_region 14 with (fail)
        obtain ⟨w14, hw14⟩ : ∃ w14, w14 = ((w13.setCell ⟨Q, 0, none⟩ (.int .i64 (S.G p).code)).setCell ⟨Q, 1, none⟩ (.int .i64 (S.G p).adv)).setCell ⟨Q, 2, none⟩ (.slice sp (S.G p).n sc) := ⟨_, rfl⟩
        have XQ14 : Hid (BxAt w14 Q [.int .i64 (S.G p).code, .int .i64 (S.G p).adv, .slice sp (S.G p).n sc]) := Lib.hid (by rw [hw14]; exact bx3 XQ.out _ _ _)
        have b14 : Below w12.heap.size w12 w14 := by rw [hw14]; exact below3 B13.out QA.out.2.2 _ _ _
        have XR14 : Hid (BxAt w14 R10 [.int .i64 (S.G p).code, .int .i64 (S.G p).adv, .slice gq (S.G p).n gk]) := Lib.hid (by rw [hw14]; exact ((XR13.out.far _ (by have := QR.out; omega)).far _ (by have := QR.out; omega)).far _ (by have := QR.out; omega))
        have F14 := Lib.hid (F12.out.trans (FrmA.of_below b14))
        have I14 := Lib.hid (I12.out.later b14)
        have BR14 := Lib.hid (bthen BR12.out b14)
        have B14 := Lib.hid b14
        rw [← hw14]
        clear hw14 c0 c1 c2 q0 q1 q2 qf qz
        have q0 := XQ14.out.2.2 0 _ rfl
        have q1 := XQ14.out.2.2 1 _ rfl
        have q2 := XQ14.out.2.2 2 _ rfl
        have r0 := XR14.out.2.2 0 _ rfl
        have r1 := XR14.out.2.2 1 _ rfl
        have r2 := XR14.out.2.2 2 _ rfl
        go_wp2_with fail
        refine (steps30 (.slice gq (S.G p).n gk) (.slice sp (S.G p).n sc) (S.G p).n (S.G p).F w14 (RW.out.later BR14.out) (ST.out.later B14.out) (by omega)).mono ?_
        rintro e w15 ⟨rfl, m, rfl⟩
        clear q0 q1 q2 r0 r1 r2
        go_wp2_with fail
        go_ret
        exact ⟨rfl, F14.out.trans (FrmA.of_below (below_drewN' _ _)), I14.out.later (below_drewN' _ _)⟩
end Go.Proofs.Ytkhdielfnphheaa
