/- DERIVED. The contract of fix.parts (function 10): a text's sign, its digits, its exponent, or that it is no number: what the plain function 'Pl.parts' says. -/
import Derived.Test.YtkfbpofjalcahaaDoorProg
import Derived.Test.YtkfbpofjalcahaaDoorPartsLem
import Derived.WalkKit
import Derived.WalkLawsBesides
import Derived.Deep.LoopGhost
import Derived.Deep.QuietTactic
import Derived.BigQuiet
import Derived.Outline
import Derived.OwnWalk
import Derived.Deep.DeepMust
import Derived.WalkSmall
import Derived.Lib.Hide
import Derived.Laws.RangeAny
import Derived.Laws.BytesArg
import Derived.Laws.ResultCell
namespace Go.Proofs.YtkfbpofjalcahaaDoor
open Go Go.RowKit Go.Lib
def PartsPost (s : ByteArray) (w : World) (e : Ending) (w' : World) : Prop :=
  ∃ (a : Bool) (d : ByteArray) (x : Int), e = .returned (.tuple #[.agg #[.bool a, .string d, .int .i64 x], .bool (Pl.parts s.data.toList).isSome]) ∧
    (∀ r, Pl.parts s.data.toList = some r → a = r.1 ∧ d = ⟨r.2.1.toArray⟩ ∧ x = r.2.2) ∧ Below w.heap.size w w'

theorem post_none {s : ByteArray} {w w' : World} {a b : Bool} {d : ByteArray} {x : Int} (h : Pl.parts s.data.toList = none) (hb : b = false) (hw : Below w.heap.size w w') :
    PartsPost s w (.returned (.tuple #[.agg #[.bool a, .string d, .int .i64 x], .bool b])) w' :=
  ⟨a, d, x, by rw [h, hb]; rfl, (fun r hr => by rw [h] at hr; cases hr), hw⟩

theorem run_cons (s : ByteArray) (pos : Nat) (h : pos < s.size) (t : Pl.St) :
    Pl.run (s.data.toList.drop pos) pos t = (Pl.step pos s[pos] t).bind (Pl.run (s.data.toList.drop (pos + 1)) (pos + 1)) := by
  have h' : pos < s.data.toList.length := by simpa using h
  rw [List.drop_eq_getElem_cons h']
  rfl

theorem run_next {l l' : List UInt8} {pos : Nat} {c : UInt8} {T T' : Pl.St} {R : Option Pl.St} (HR : Hid (Pl.run l pos T = (Pl.step pos c T).bind (Pl.run l' (pos + 1))))
    (Hrun : Hid (Pl.run l pos T = R)) (hs : Pl.step pos c T = some T') : Hid (Pl.run l' (pos + 1) T' = R) := by
  have h := HR.out
  rw [hs, Hrun.out] at h
  exact h.symm
theorem run_none {l l' : List UInt8} {pos : Nat} {c : UInt8} {T : Pl.St} {s : List UInt8} (HR : Hid (Pl.run l pos T = (Pl.step pos c T).bind (Pl.run l' (pos + 1))))
    (Hrun : Hid (Pl.run l pos T = Pl.run s 0 Pl.st0)) (hs : Pl.step pos c T = none) : Pl.parts s = none := by
  have h := HR.out
  rw [hs, Hrun.out] at h
  unfold Pl.parts
  rw [h]
  rfl

section
variable {i : Nat} {c : UInt8} {C pt xe ex : Int} {neg dn : Bool} {ds : List UInt8}
theorem bz (HC : Hid ((c.toNat : Int) = C)) (k : Nat) : ((C : Int) == (k : Int)) = (c.toNat == k) := by
  have := HC.out
  subst this
  rw [Bool.eq_iff_iff]
  simp
  omega
theorem step_sign0 (HC : Hid ((c.toNat : Int) = C)) (h : C = 43 ∨ C = 45) : Pl.step 0 c ⟨pt, neg, xe, ds, ex, dn⟩ = some ⟨pt, C == 45, xe, ds, ex, dn⟩ := by
  have := HC.out
  unfold Pl.step
  rw [if_pos ⟨rfl, by omega⟩, ← bz HC 45]
  rfl
theorem step_dA (HC : Hid ((c.toNat : Int) = C)) (h0 : 48 ≤ C) (h1 : C ≤ 57) (hp : pt = 2 ∨ pt = 3) : Pl.step i c ⟨pt, neg, xe, ds, ex, dn⟩ = some ⟨3, neg, xe - 1, ds ++ [c], ex, dn⟩ := by
  have := HC.out
  unfold Pl.step
  rw [if_neg (by omega), if_pos (by omega), if_pos hp]
theorem step_dB (HC : Hid ((c.toNat : Int) = C)) (h0 : 48 ≤ C) (h1 : C ≤ 57) (hp : pt = 0 ∨ pt = 1) : Pl.step i c ⟨pt, neg, xe, ds, ex, dn⟩ = some ⟨1, neg, xe, ds ++ [c], ex, dn⟩ := by
  have := HC.out
  unfold Pl.step
  rw [if_neg (by omega), if_pos (by omega), if_neg (by simp only; omega), if_pos hp]
theorem step_dC (HC : Hid ((c.toNat : Int) = C)) (h0 : 48 ≤ C) (h1 : C ≤ 57) (hp : 4 ≤ pt) {E : Int} (hE : min (10 * ex + (C - 48)) 1099511627776 = E) : Pl.step i c ⟨pt, neg, xe, ds, ex, dn⟩ = some ⟨6, neg, xe, ds, E, dn⟩ := by
  have := HC.out
  subst hE
  unfold Pl.step
  rw [if_neg (by omega), if_pos (by omega), if_neg (by simp only; omega), if_neg (by simp only; omega), this]
theorem step_dot (HC : Hid ((c.toNat : Int) = 46)) (hp : pt ≤ 1) : Pl.step i c ⟨pt, neg, xe, ds, ex, dn⟩ = some ⟨2, neg, xe, ds, ex, dn⟩ := by
  have := HC.out
  unfold Pl.step
  rw [if_neg (by omega), if_neg (by omega), if_pos ⟨by omega, hp⟩]
theorem step_e (HC : Hid ((c.toNat : Int) = C)) (h : C = 101 ∨ C = 69) (hp : pt < 4) (hd : 0 < ds.length) : Pl.step i c ⟨pt, neg, xe, ds, ex, dn⟩ = some ⟨4, neg, xe, ds, ex, dn⟩ := by
  have := HC.out
  unfold Pl.step
  rw [if_neg (by omega), if_neg (by omega), if_neg (by omega), if_pos ⟨by omega, hp, hd⟩]
theorem step_s (HC : Hid ((c.toNat : Int) = C)) (h : C = 43 ∨ C = 45) (hi : 1 ≤ i) : Pl.step i c ⟨4, neg, xe, ds, ex, dn⟩ = some ⟨5, neg, xe, ds, ex, C == 45⟩ := by
  have := HC.out
  unfold Pl.step
  rw [if_neg (by omega), if_neg (by omega), if_neg (by omega), if_neg (by omega), if_pos ⟨by omega, rfl⟩, ← bz HC 45]
  rfl
theorem step_no (HC : Hid ((c.toNat : Int) = C)) (h1 : ¬ (i = 0 ∧ (C = 43 ∨ C = 45))) (h2 : ¬ (48 ≤ C ∧ C ≤ 57)) (h3 : ¬ (C = 46 ∧ pt ≤ 1)) (h4 : ¬ ((C = 101 ∨ C = 69) ∧ pt < 4 ∧ 0 < ds.length))
    (h5 : ¬ ((C = 43 ∨ C = 45) ∧ pt = 4)) : Pl.step i c ⟨pt, neg, xe, ds, ex, dn⟩ = none := by
  have := HC.out
  unfold Pl.step
  rw [if_neg (by omega), if_neg (by omega), if_neg (by simp only; omega), if_neg (by simp only; omega), if_neg (by simp only; omega)]
/-- A byte from 128 on. -/
theorem step_high (h : 128 ≤ c.toNat) : Pl.step i c ⟨pt, neg, xe, ds, ex, dn⟩ = none := step_no (C := c.toNat) rfl (by omega) (by omega) (by omega) (by omega) (by omega)
end

theorem len_snoc (ds : List UInt8) (c : UInt8) : (ds ++ [c]).length = ds.length + 1 := by simp

theorem nb {C k : Int} (h : C ≠ k) : (C == k) = false := by simpa using h

theorem own_shape {W : World} {B e sz n : Nat} {v : Value} {xs : List Value} (h : W.ownsRow B e sz v n xs) : ∃ a cap, v = .slice a n cap := by
  rcases h.2 with ⟨rfl, rfl⟩ | ⟨g, cap, cur, rfl, _⟩
  · exact ⟨_, _, rfl⟩
  · exact ⟨_, _, rfl⟩

theorem PM.start (s : ByteArray) (w : World) : PM s w (((w.alloc (.cells #[.bool false, .string ⟨#[]⟩, .int .i64 0] 32)).alloc (.cells #[.bool false, .string ⟨#[]⟩, .int .i64 0] 32)).iter s 0) 0 false 0 [] (.slice none 0 0) := by
  refine ⟨World.ownsRow_nil _ _ _ _, ?_, ?_, ?_, ?_, ?_⟩
  · have := World.iter_heap ((w.alloc (.cells #[.bool false, .string ⟨#[]⟩, .int .i64 0] 32)).alloc (.cells #[.bool false, .string ⟨#[]⟩, .int .i64 0] 32)) s 0
    simpa using this
  · unfold World.iter
    rw [Below.heap_alloc _ _ _ (by simp)]
    have := heap_alloc_new (w.alloc (.cells #[.bool false, .string ⟨#[]⟩, .int .i64 0] 32)) (.cells #[.bool false, .string ⟨#[]⟩, .int .i64 0] 32)
    simpa using this
  · unfold World.iter
    rw [Below.heap_alloc _ _ _ (by simp; omega), Below.heap_alloc _ _ _ (by simp)]
    exact heap_alloc_new _ _
  · exact (((Below.refl _ _).alloc (Nat.le_refl _) _).alloc (by simp) _).alloc (by simp; omega) _
  · unfold World.iter
    simp

theorem info5 : (Tryd.prog.info? 5).map (fun i => (i.zero, i.size, i.bytes)) = some (some (.int .u8 0), 1, 1) := by kernel_rfl
theorem info32' : (Tryd.prog.info? 32).map (fun i => (i.zero, i.size, i.bytes)) = some (some (.agg #[.bool false, .string ⟨#[]⟩, .int .i64 0]), 3, 32) := by kernel_rfl

set_option maxRecDepth 100000 in
theorem convert_own {W : World} {B : Nat} {v : Value} {ds : List UInt8} (h : W.ownsRow B 5 1 v ds.length (ds.map fun b => Value.int .u8 b.toNat)) :
    (convert 46 9 v).run Tryd.prog W = .ok (.string ⟨ds.toArray⟩) W := by
  rcases h.2 with ⟨rfl, hn⟩ | ⟨g, cap, cur, rfl, _⟩
  · have : ds = [] := List.eq_nil_of_length_eq_zero hn
    subst this
    exact run_convert_bytes_nil W 46 5 Tryd.underlying46 Tryd.underlying5 0 0 9 Tryd.underlying9
  · have hc := run_convert_bytes_arg W 46 5 Tryd.underlying46 Tryd.underlying5 g 0 ds.length cap (ds.map fun b => (b.toNat : Int)) (by simp) (fun i hi => by
      have := h.cells rfl i (.int .u8 ds[i].toNat) (by simp [hi])
      have e : ((⟨g, 0, none⟩ : Addr).add i) = ⟨g, 0 + i, none⟩ := by unfold Addr.add; split <;> simp_all
      rw [e] at this
      rw [this]
      simp [hi, List.getD]) 9 Tryd.underlying9
    rw [hc]
    congr 2
    unfold strOfNums
    have hid' : ((fun n : Int => UInt8.ofNat n.toNat) ∘ fun b : UInt8 => (b.toNat : Int)) = id := by funext b; simp
    simp [hid']

theorem parts_some {l : List UInt8} {pt xe ex : Int} {neg dn : Bool} {ds : List UInt8} (h : Pl.run l 0 Pl.st0 = some ⟨pt, neg, xe, ds, ex, dn⟩) (h1 : 0 < ds.length) (h2 : pt ≠ 4) (h3 : pt ≠ 5) :
    Pl.parts l = some (neg, ds, xe + (if dn then -ex else ex)) := by
  unfold Pl.parts
  rw [h]
  simp only
  rw [if_pos ⟨h1, h2, h3⟩]
theorem parts_no {l : List UInt8} {pt xe ex : Int} {neg dn : Bool} {ds : List UInt8} (h : Pl.run l 0 Pl.st0 = some ⟨pt, neg, xe, ds, ex, dn⟩) (h1 : ¬ (0 < ds.length ∧ pt ≠ 4 ∧ pt ≠ 5)) : Pl.parts l = none := by
  unfold Pl.parts
  rw [h]
  simp only
  rw [if_neg h1]
theorem post_some {s : ByteArray} {w w' : World} {a b : Bool} {ds : List UInt8} {x : Int} (h : Pl.parts s.data.toList = some (a, ds, x)) (hb : b = true) (hw : Below w.heap.size w w') :
    PartsPost s w (.returned (.tuple #[.agg #[.bool a, .string ⟨ds.toArray⟩, .int .i64 x], .bool b])) w' :=
  ⟨a, ⟨ds.toArray⟩, x, by rw [h, hb]; rfl, (fun r hr => by rw [h] at hr; cases hr; exact ⟨rfl, rfl, rfl⟩), hw⟩

set_option maxHeartbeats 16000000 in
set_option maxRecDepth 1000000 in
theorem parts_any (s : ByteArray) (w : World) (hs : s.size ≤ 400) :
    Calls Tryd.prog 10 #[.string s] w (PartsPost s w) := by
  obtain ⟨i0, hi, hz0, hz1, hz2⟩ := info_parts info5
  go_enter Tryd.func10, Tryd.ntmps10
  go_wp2
  go_loopg [5, 6, 7, 8] s.size (fun gf s5 s6 s7 s8 wx => ∃ (pos : Nat) (pt xe ex : Int) (neg dn : Bool) (ds : List UInt8),
      s6 = .int .i64 pt ∧ s7 = .int .i64 ex ∧ s8 = .bool dn ∧ Hid (PM s w wx pos neg xe ds s5) ∧
      0 ≤ pt ∧ pt ≤ 6 ∧ -pos ≤ xe ∧ xe ≤ 0 ∧ 0 ≤ ex ∧ ex ≤ 1099511627776 ∧ ds.length ≤ pos ∧ pos ≤ s.size ∧ s.size ≤ pos + gf ∧
      Hid (Pl.run (s.data.toList.drop pos) pos ⟨pt, neg, xe, ds, ex, dn⟩ = Pl.run s.data.toList 0 Pl.st0) ∧ Hid (pos = 0 → pt = 0))
  case atStart => exact ⟨0, 0, 0, 0, false, false, [], rfl, rfl, rfl, PM.start s w, by omega, by omega, by omega, by omega, by omega, by omega, by simp, by omega, by omega, rfl, fun _ => rfl⟩
  case round =>
    obtain ⟨pos, pt, xe, ex, neg, dn, ds, rfl, rfl, rfl, HM, p0, p6, x0, x1, e0, e1, hdl, hps, hfu, Hrun, Hst⟩ := hrel
    obtain ⟨sa, scap, hv⟩ := own_shape HM.out.own
    subst hv
    by_cases hlt : pos < s.size
    · obtain ⟨g', rfl⟩ : ∃ g', gk = g' + 1 := ⟨gk - 1, by omega⟩
      by_cases ha : (s[pos]'hlt).toNat < 128
      · have hnx : ∀ ty, (Instr.next (.pointer (some ⟨w.heap.size + 1 + 1, 0, none⟩)) true ty).run Tryd.prog wr = _ := fun ty => Lib.run_next_ascii_at wr (w.heap.size + 1 + 1) s pos ty HM.out.it hlt ha
        have hrc := run_cons s pos hlt ⟨pt, neg, xe, ds, ex, dn⟩
        obtain ⟨c, hc⟩ : ∃ c, (s[pos]'hlt) = c := ⟨_, rfl⟩
        rw [hc] at hnx hrc ha
        clear hc
        have hM2 := HM.out.iterAt (pos + 1)
        obtain ⟨W, hWd⟩ : ∃ W, wr.iterAt (w.heap.size + 1 + 1) s (pos + 1) = W := ⟨_, rfl⟩
        rw [hWd] at hnx hM2
        obtain ⟨C, hC⟩ : ∃ C : Int, (c.toNat : Int) = C := ⟨_, rfl⟩
        rw [hC] at hnx
        have hC0 : 0 ≤ C := by omega
        have hC1 : C < 128 := by omega
        have HC := Lib.hid hC
        have HR := Lib.hid hrc
        clear hWd hC hrc ha HM
        obtain ⟨hx0, hx1, hx2, hxf⟩ := three_cells hM2.x
        have hxf0 := hxf 0
        have hxf2 := hxf 2
        obtain ⟨hr0, hr1, hr2, hrf⟩ := three_cells hM2.r
        have hrf0 := hrf 0
        have hrf1 := hrf 1
        have hrf2 := hrf 2
        clear hxf hrf
        have HM2 := Lib.hid hM2
        clear hM2
        by_cases hp0 : pos = 0
        · subst hp0
          obtain rfl := Hst.out rfl
          clear Hst
          have hl : ¬ 0 < ds.length := by omega
          rcases (by omega : C = 43 ∨ C = 45 ∨ (48 ≤ C ∧ C ≤ 57) ∨ C = 46 ∨ C = 101 ∨ C = 69 ∨ (C < 48 ∧ C ≠ 43 ∧ C ≠ 45 ∧ C ≠ 46) ∨ (57 < C ∧ C ≠ 69 ∧ C ≠ 101)) with rfl | rfl | ⟨d0, d1⟩ | rfl | rfl | rfl | ⟨q, q43, q45, q46⟩ | ⟨q, q69, q101⟩
          · go_wp2
            go_roundg g'
            case measure => omega
            case rel => exact ⟨0 + 1, 0, xe, ex, (43 : Int) == 45, dn, ds, rfl, rfl, rfl, HM2.out.setX 0 _ _ _ rfl, by omega, by omega, by omega, by omega, by omega, by omega, by omega, by omega, by omega, run_next HR Hrun (step_sign0 HC (by omega)), Lib.hid (fun h => by omega)⟩
          · go_wp2
            go_roundg g'
            case measure => omega
            case rel => exact ⟨0 + 1, 0, xe, ex, (45 : Int) == 45, dn, ds, rfl, rfl, rfl, HM2.out.setX 0 _ _ _ rfl, by omega, by omega, by omega, by omega, by omega, by omega, by omega, by omega, by omega, run_next HR Hrun (step_sign0 HC (by omega)), Lib.hid (fun h => by omega)⟩
          · have n43 := nb (C := C) (k := 43) (by omega)
            have n45 := nb (C := C) (k := 45) (by omega)
            have hown0 := HM2.out.own.alloc (.cells #[.int .u8 C] 5)
            have hsz3 : w.heap.size + 3 ≤ (W.alloc (.cells #[.int .u8 C] 5)).heap.size := by have := HM2.out.sz; simp; omega
            have Hown := Lib.hid hown0
            have Hsz := Lib.hid hsz3
            clear hown0 hsz3
            go_wp2_with (at_builtin; refine wpList_append_own _ rfl (.tmp 50) (.tmp 53) 46 rfl (w.heap.size + 3) 5 i0 (.int .u8 0) 1 1 Tryd.underlying46 hi hz0 hz1 hz2 rfl (by decide) _ ds.length _ rfl Hown.out ⟨W.heap.size, 0, none⟩ 1 1 [.int .u8 C] rfl rfl (cell_one_new _ _ _) (by simp [Value.oneCell']) (by unfold maxLen; omega) (by omega) Hsz.out ?_)
            intro v' w1 hown' hgrow _
            rw [← HC.out] at hown'
            have HM3 := Lib.hid (HM2.out.grow _ c hown' hgrow)
            clear hown' hgrow
            go_wp2_with fail
            go_roundg g'
            case measure => omega
            case rel => exact ⟨0 + 1, 1, xe, ex, neg, dn, ds ++ [c], rfl, rfl, rfl, HM3, by omega, by omega, by omega, by omega, by omega, by omega, by have := len_snoc ds c; omega, by omega, by omega, run_next HR Hrun (step_dB HC d0 d1 (by omega)), Lib.hid (fun h => by omega)⟩
          · go_wp2
            go_roundg g'
            case measure => omega
            case rel => exact ⟨0 + 1, 2, xe, ex, neg, dn, ds, rfl, rfl, rfl, HM2, by omega, by omega, by omega, by omega, by omega, by omega, by omega, by omega, by omega, run_next HR Hrun (step_dot HC (by omega)), Lib.hid (fun h => by omega)⟩
          · go_wp2
            obtain ⟨k0, k1, k2, _⟩ := three_cells (set_three HM2.out.r (.bool neg) (.string ⟨#[]⟩) (.int .i64 xe))
            refine bodyPost_ret (v := .tuple #[.agg #[.bool neg, .string ⟨#[]⟩, .int .i64 xe], .bool false]) (by simp [results, Tryd.results10, go_sem, k0, k1, k2]) rfl ?_
            exact post_none (run_none HR Hrun (step_no HC (by omega) (by omega) (by omega) (by omega) (by omega))) rfl (((HM2.out.bw.setCell (Nat.le_refl _) _).setCell (Nat.le_refl _) _).setCell (Nat.le_refl _) _)
          · go_wp2
            obtain ⟨k0, k1, k2, _⟩ := three_cells (set_three HM2.out.r (.bool neg) (.string ⟨#[]⟩) (.int .i64 xe))
            refine bodyPost_ret (v := .tuple #[.agg #[.bool neg, .string ⟨#[]⟩, .int .i64 xe], .bool false]) (by simp [results, Tryd.results10, go_sem, k0, k1, k2]) rfl ?_
            exact post_none (run_none HR Hrun (step_no HC (by omega) (by omega) (by omega) (by omega) (by omega))) rfl (((HM2.out.bw.setCell (Nat.le_refl _) _).setCell (Nat.le_refl _) _).setCell (Nat.le_refl _) _)
          · have n43 := nb q43
            have n45 := nb q45
            have n46 := nb q46
            have Hq := Lib.hid (show C ≠ 43 ∧ C ≠ 45 ∧ C ≠ 46 from ⟨q43, q45, q46⟩)
            clear q43 q45 q46
            go_wp2
            obtain ⟨k0, k1, k2, _⟩ := three_cells (set_three HM2.out.r (.bool neg) (.string ⟨#[]⟩) (.int .i64 xe))
            refine bodyPost_ret (v := .tuple #[.agg #[.bool neg, .string ⟨#[]⟩, .int .i64 xe], .bool false]) (by simp [results, Tryd.results10, go_sem, k0, k1, k2]) rfl ?_
            exact post_none (have Hq' := Hq.out; run_none HR Hrun (step_no HC (by omega) (by omega) (by omega) (by omega) (by omega))) rfl (((HM2.out.bw.setCell (Nat.le_refl _) _).setCell (Nat.le_refl _) _).setCell (Nat.le_refl _) _)
          · have n43 := nb (C := C) (k := 43) (by omega)
            have n45 := nb (C := C) (k := 45) (by omega)
            have n69 := nb q69
            have n101 := nb q101
            have Hq := Lib.hid (show C ≠ 69 ∧ C ≠ 101 from ⟨q69, q101⟩)
            clear q69 q101
            go_wp2
            obtain ⟨k0, k1, k2, _⟩ := three_cells (set_three HM2.out.r (.bool neg) (.string ⟨#[]⟩) (.int .i64 xe))
            refine bodyPost_ret (v := .tuple #[.agg #[.bool neg, .string ⟨#[]⟩, .int .i64 xe], .bool false]) (by simp [results, Tryd.results10, go_sem, k0, k1, k2]) rfl ?_
            exact post_none (have Hq' := Hq.out; run_none HR Hrun (step_no HC (by omega) (by omega) (by omega) (by omega) (by omega))) rfl (((HM2.out.bw.setCell (Nat.le_refl _) _).setCell (Nat.le_refl _) _).setCell (Nat.le_refl _) _)
        · have hp1 : 1 ≤ pos := by omega
          clear hp0 Hst
          rcases (by omega : C = 43 ∨ C = 45 ∨ (48 ≤ C ∧ C ≤ 57) ∨ C = 46 ∨ C = 101 ∨ C = 69 ∨ (C < 48 ∧ C ≠ 43 ∧ C ≠ 45 ∧ C ≠ 46) ∨ (57 < C ∧ C ≠ 69 ∧ C ≠ 101)) with rfl | rfl | ⟨d0, d1⟩ | rfl | rfl | rfl | ⟨q, q43, q45, q46⟩ | ⟨q, q69, q101⟩
          · rcases (by omega : pt < 4 ∨ pt = 4 ∨ 4 < pt) with q | rfl | q
            · go_wp2
              obtain ⟨k0, k1, k2, _⟩ := three_cells (set_three HM2.out.r (.bool neg) (.string ⟨#[]⟩) (.int .i64 xe))
              refine bodyPost_ret (v := .tuple #[.agg #[.bool neg, .string ⟨#[]⟩, .int .i64 xe], .bool false]) (by simp [results, Tryd.results10, go_sem, k0, k1, k2]) rfl ?_
              exact post_none (run_none HR Hrun (step_no HC (by omega) (by omega) (by omega) (by omega) (by omega))) rfl (((HM2.out.bw.setCell (Nat.le_refl _) _).setCell (Nat.le_refl _) _).setCell (Nat.le_refl _) _)
            · go_wp2
              go_roundg g'
              case measure => omega
              case rel => exact ⟨pos + 1, 5, xe, ex, neg, (43 : Int) == 45, ds, rfl, rfl, rfl, HM2, by omega, by omega, by omega, by omega, by omega, by omega, by omega, by omega, by omega, run_next HR Hrun (step_s HC (by omega) hp1), Lib.hid (fun h => by omega)⟩
            · go_wp2
              obtain ⟨k0, k1, k2, _⟩ := three_cells (set_three HM2.out.r (.bool neg) (.string ⟨#[]⟩) (.int .i64 xe))
              refine bodyPost_ret (v := .tuple #[.agg #[.bool neg, .string ⟨#[]⟩, .int .i64 xe], .bool false]) (by simp [results, Tryd.results10, go_sem, k0, k1, k2]) rfl ?_
              exact post_none (run_none HR Hrun (step_no HC (by omega) (by omega) (by omega) (by omega) (by omega))) rfl (((HM2.out.bw.setCell (Nat.le_refl _) _).setCell (Nat.le_refl _) _).setCell (Nat.le_refl _) _)
          · rcases (by omega : pt < 4 ∨ pt = 4 ∨ 4 < pt) with q | rfl | q
            · go_wp2
              obtain ⟨k0, k1, k2, _⟩ := three_cells (set_three HM2.out.r (.bool neg) (.string ⟨#[]⟩) (.int .i64 xe))
              refine bodyPost_ret (v := .tuple #[.agg #[.bool neg, .string ⟨#[]⟩, .int .i64 xe], .bool false]) (by simp [results, Tryd.results10, go_sem, k0, k1, k2]) rfl ?_
              exact post_none (run_none HR Hrun (step_no HC (by omega) (by omega) (by omega) (by omega) (by omega))) rfl (((HM2.out.bw.setCell (Nat.le_refl _) _).setCell (Nat.le_refl _) _).setCell (Nat.le_refl _) _)
            · go_wp2
              go_roundg g'
              case measure => omega
              case rel => exact ⟨pos + 1, 5, xe, ex, neg, (45 : Int) == 45, ds, rfl, rfl, rfl, HM2, by omega, by omega, by omega, by omega, by omega, by omega, by omega, by omega, by omega, run_next HR Hrun (step_s HC (by omega) hp1), Lib.hid (fun h => by omega)⟩
            · go_wp2
              obtain ⟨k0, k1, k2, _⟩ := three_cells (set_three HM2.out.r (.bool neg) (.string ⟨#[]⟩) (.int .i64 xe))
              refine bodyPost_ret (v := .tuple #[.agg #[.bool neg, .string ⟨#[]⟩, .int .i64 xe], .bool false]) (by simp [results, Tryd.results10, go_sem, k0, k1, k2]) rfl ?_
              exact post_none (run_none HR Hrun (step_no HC (by omega) (by omega) (by omega) (by omega) (by omega))) rfl (((HM2.out.bw.setCell (Nat.le_refl _) _).setCell (Nat.le_refl _) _).setCell (Nat.le_refl _) _)
          · rcases (by omega : pt = 0 ∨ pt = 1 ∨ pt = 2 ∨ pt = 3 ∨ 4 ≤ pt) with rfl | rfl | rfl | rfl | q
            · have hown0 := HM2.out.own.alloc (.cells #[.int .u8 C] 5)
              have hsz3 : w.heap.size + 3 ≤ (W.alloc (.cells #[.int .u8 C] 5)).heap.size := by have := HM2.out.sz; simp; omega
              have Hown := Lib.hid hown0
              have Hsz := Lib.hid hsz3
              clear hown0 hsz3
              go_wp2_with (at_builtin; refine wpList_append_own _ rfl (.tmp 50) (.tmp 53) 46 rfl (w.heap.size + 3) 5 i0 (.int .u8 0) 1 1 Tryd.underlying46 hi hz0 hz1 hz2 rfl (by decide) _ ds.length _ rfl Hown.out ⟨W.heap.size, 0, none⟩ 1 1 [.int .u8 C] rfl rfl (cell_one_new _ _ _) (by simp [Value.oneCell']) (by unfold maxLen; omega) (by omega) Hsz.out ?_)
              intro v' w1 hown' hgrow _
              rw [← HC.out] at hown'
              have HM3 := Lib.hid (HM2.out.grow _ c hown' hgrow)
              clear hown' hgrow
              go_wp2_with fail
              go_roundg g'
              case measure => omega
              case rel => exact ⟨pos + 1, 1, xe, ex, neg, dn, ds ++ [c], rfl, rfl, rfl, HM3, by omega, by omega, by omega, by omega, by omega, by omega, by have := len_snoc ds c; omega, by omega, by omega, run_next HR Hrun (step_dB HC d0 d1 (by omega)), Lib.hid (fun h => by omega)⟩
            · have hown0 := HM2.out.own.alloc (.cells #[.int .u8 C] 5)
              have hsz3 : w.heap.size + 3 ≤ (W.alloc (.cells #[.int .u8 C] 5)).heap.size := by have := HM2.out.sz; simp; omega
              have Hown := Lib.hid hown0
              have Hsz := Lib.hid hsz3
              clear hown0 hsz3
              go_wp2_with (at_builtin; refine wpList_append_own _ rfl (.tmp 50) (.tmp 53) 46 rfl (w.heap.size + 3) 5 i0 (.int .u8 0) 1 1 Tryd.underlying46 hi hz0 hz1 hz2 rfl (by decide) _ ds.length _ rfl Hown.out ⟨W.heap.size, 0, none⟩ 1 1 [.int .u8 C] rfl rfl (cell_one_new _ _ _) (by simp [Value.oneCell']) (by unfold maxLen; omega) (by omega) Hsz.out ?_)
              intro v' w1 hown' hgrow _
              rw [← HC.out] at hown'
              have HM3 := Lib.hid (HM2.out.grow _ c hown' hgrow)
              clear hown' hgrow
              go_wp2_with fail
              go_roundg g'
              case measure => omega
              case rel => exact ⟨pos + 1, 1, xe, ex, neg, dn, ds ++ [c], rfl, rfl, rfl, HM3, by omega, by omega, by omega, by omega, by omega, by omega, by have := len_snoc ds c; omega, by omega, by omega, run_next HR Hrun (step_dB HC d0 d1 (by omega)), Lib.hid (fun h => by omega)⟩
            · have HMX := Lib.hid (HM2.out.setX 2 (.int .i64 (xe - 1)) neg (xe - 1) rfl)
              have hown0 := HMX.out.own.alloc (.cells #[.int .u8 C] 5)
              have hsz3 : w.heap.size + 3 ≤ ((W.setCell ⟨w.heap.size + 1, 2, none⟩ (.int .i64 (xe - 1))).alloc (.cells #[.int .u8 C] 5)).heap.size := by have := HMX.out.sz; simp at this ⊢; omega
              have hone : ∀ j u, [Value.int .u8 C][j]? = some u → ((W.setCell ⟨w.heap.size + 1, 2, none⟩ (.int .i64 (xe - 1))).alloc (.cells #[.int .u8 C] 5)).cell? ((⟨W.heap.size, 0, none⟩ : Addr).add j) = some u := by
                have h := cell_one_new (W.setCell ⟨w.heap.size + 1, 2, none⟩ (.int .i64 (xe - 1))) (.int .u8 C) 5
                rw [show (W.setCell ⟨w.heap.size + 1, 2, none⟩ (.int .i64 (xe - 1))).heap.size = W.heap.size by simp] at h
                exact h
              have Hown := Lib.hid hown0
              have Hsz := Lib.hid hsz3
              have Hone := Lib.hid hone
              clear hown0 hsz3 hone
              go_wp2_with (at_builtin; refine wpList_append_own _ rfl (.tmp 50) (.tmp 53) 46 rfl (w.heap.size + 3) 5 i0 (.int .u8 0) 1 1 Tryd.underlying46 hi hz0 hz1 hz2 rfl (by decide) _ ds.length _ rfl Hown.out ⟨W.heap.size, 0, none⟩ 1 1 [.int .u8 C] rfl rfl Hone.out (by simp [Value.oneCell']) (by unfold maxLen; omega) (by omega) Hsz.out ?_)
              intro v' w1 hown' hgrow _
              rw [← HC.out] at hown'
              have HM3 := Lib.hid (HMX.out.grow _ c hown' hgrow)
              clear hown' hgrow
              go_wp2_with fail
              go_roundg g'
              case measure => omega
              case rel => exact ⟨pos + 1, 3, xe - 1, ex, neg, dn, ds ++ [c], rfl, rfl, rfl, HM3, by omega, by omega, by omega, by omega, by omega, by omega, by have := len_snoc ds c; omega, by omega, by omega, run_next HR Hrun (step_dA HC d0 d1 (by omega)), Lib.hid (fun h => by omega)⟩
            · have HMX := Lib.hid (HM2.out.setX 2 (.int .i64 (xe - 1)) neg (xe - 1) rfl)
              have hown0 := HMX.out.own.alloc (.cells #[.int .u8 C] 5)
              have hsz3 : w.heap.size + 3 ≤ ((W.setCell ⟨w.heap.size + 1, 2, none⟩ (.int .i64 (xe - 1))).alloc (.cells #[.int .u8 C] 5)).heap.size := by have := HMX.out.sz; simp at this ⊢; omega
              have hone : ∀ j u, [Value.int .u8 C][j]? = some u → ((W.setCell ⟨w.heap.size + 1, 2, none⟩ (.int .i64 (xe - 1))).alloc (.cells #[.int .u8 C] 5)).cell? ((⟨W.heap.size, 0, none⟩ : Addr).add j) = some u := by
                have h := cell_one_new (W.setCell ⟨w.heap.size + 1, 2, none⟩ (.int .i64 (xe - 1))) (.int .u8 C) 5
                rw [show (W.setCell ⟨w.heap.size + 1, 2, none⟩ (.int .i64 (xe - 1))).heap.size = W.heap.size by simp] at h
                exact h
              have Hown := Lib.hid hown0
              have Hsz := Lib.hid hsz3
              have Hone := Lib.hid hone
              clear hown0 hsz3 hone
              go_wp2_with (at_builtin; refine wpList_append_own _ rfl (.tmp 50) (.tmp 53) 46 rfl (w.heap.size + 3) 5 i0 (.int .u8 0) 1 1 Tryd.underlying46 hi hz0 hz1 hz2 rfl (by decide) _ ds.length _ rfl Hown.out ⟨W.heap.size, 0, none⟩ 1 1 [.int .u8 C] rfl rfl Hone.out (by simp [Value.oneCell']) (by unfold maxLen; omega) (by omega) Hsz.out ?_)
              intro v' w1 hown' hgrow _
              rw [← HC.out] at hown'
              have HM3 := Lib.hid (HMX.out.grow _ c hown' hgrow)
              clear hown' hgrow
              go_wp2_with fail
              go_roundg g'
              case measure => omega
              case rel => exact ⟨pos + 1, 3, xe - 1, ex, neg, dn, ds ++ [c], rfl, rfl, rfl, HM3, by omega, by omega, by omega, by omega, by omega, by omega, by have := len_snoc ds c; omega, by omega, by omega, run_next HR Hrun (step_dA HC d0 d1 (by omega)), Lib.hid (fun h => by omega)⟩
            · go_wp2
              all_goals
                go_roundg g'
                case measure => omega
                case rel => exact ⟨pos + 1, 6, xe, _, neg, dn, ds, rfl, rfl, rfl, HM2, by omega, by omega, by omega, by omega, by omega, by omega, by omega, by omega, by omega, run_next HR Hrun (step_dC HC d0 d1 q (by omega)), Lib.hid (fun h => by omega)⟩
                
          · rcases (by omega : pt ≤ 1 ∨ 1 < pt) with q | q
            · go_wp2
              go_roundg g'
              case measure => omega
              case rel => exact ⟨pos + 1, 2, xe, ex, neg, dn, ds, rfl, rfl, rfl, HM2, by omega, by omega, by omega, by omega, by omega, by omega, by omega, by omega, by omega, run_next HR Hrun (step_dot HC q), Lib.hid (fun h => by omega)⟩
            · go_wp2
              obtain ⟨k0, k1, k2, _⟩ := three_cells (set_three HM2.out.r (.bool neg) (.string ⟨#[]⟩) (.int .i64 xe))
              refine bodyPost_ret (v := .tuple #[.agg #[.bool neg, .string ⟨#[]⟩, .int .i64 xe], .bool false]) (by simp [results, Tryd.results10, go_sem, k0, k1, k2]) rfl ?_
              exact post_none (run_none HR Hrun (step_no HC (by omega) (by omega) (by omega) (by omega) (by omega))) rfl (((HM2.out.bw.setCell (Nat.le_refl _) _).setCell (Nat.le_refl _) _).setCell (Nat.le_refl _) _)
          · rcases (by omega : (pt < 4 ∧ 0 < ds.length) ∨ (pt < 4 ∧ ds.length = 0) ∨ 4 ≤ pt) with ⟨q, q2⟩ | ⟨q, q2⟩ | q
            · go_wp2
              go_roundg g'
              case measure => omega
              case rel => exact ⟨pos + 1, 4, xe, ex, neg, dn, ds, rfl, rfl, rfl, HM2, by omega, by omega, by omega, by omega, by omega, by omega, by omega, by omega, by omega, run_next HR Hrun (step_e HC (by omega) q q2), Lib.hid (fun h => by omega)⟩
            · have hl : ¬ 0 < ds.length := by omega
              go_wp2
              obtain ⟨k0, k1, k2, _⟩ := three_cells (set_three HM2.out.r (.bool neg) (.string ⟨#[]⟩) (.int .i64 xe))
              refine bodyPost_ret (v := .tuple #[.agg #[.bool neg, .string ⟨#[]⟩, .int .i64 xe], .bool false]) (by simp [results, Tryd.results10, go_sem, k0, k1, k2]) rfl ?_
              exact post_none (run_none HR Hrun (step_no HC (by omega) (by omega) (by omega) (by omega) (by omega))) rfl (((HM2.out.bw.setCell (Nat.le_refl _) _).setCell (Nat.le_refl _) _).setCell (Nat.le_refl _) _)
            · go_wp2
              obtain ⟨k0, k1, k2, _⟩ := three_cells (set_three HM2.out.r (.bool neg) (.string ⟨#[]⟩) (.int .i64 xe))
              refine bodyPost_ret (v := .tuple #[.agg #[.bool neg, .string ⟨#[]⟩, .int .i64 xe], .bool false]) (by simp [results, Tryd.results10, go_sem, k0, k1, k2]) rfl ?_
              exact post_none (run_none HR Hrun (step_no HC (by omega) (by omega) (by omega) (by omega) (by omega))) rfl (((HM2.out.bw.setCell (Nat.le_refl _) _).setCell (Nat.le_refl _) _).setCell (Nat.le_refl _) _)
          · rcases (by omega : (pt < 4 ∧ 0 < ds.length) ∨ (pt < 4 ∧ ds.length = 0) ∨ 4 ≤ pt) with ⟨q, q2⟩ | ⟨q, q2⟩ | q
            · go_wp2
              go_roundg g'
              case measure => omega
              case rel => exact ⟨pos + 1, 4, xe, ex, neg, dn, ds, rfl, rfl, rfl, HM2, by omega, by omega, by omega, by omega, by omega, by omega, by omega, by omega, by omega, run_next HR Hrun (step_e HC (by omega) q q2), Lib.hid (fun h => by omega)⟩
            · have hl : ¬ 0 < ds.length := by omega
              go_wp2
              obtain ⟨k0, k1, k2, _⟩ := three_cells (set_three HM2.out.r (.bool neg) (.string ⟨#[]⟩) (.int .i64 xe))
              refine bodyPost_ret (v := .tuple #[.agg #[.bool neg, .string ⟨#[]⟩, .int .i64 xe], .bool false]) (by simp [results, Tryd.results10, go_sem, k0, k1, k2]) rfl ?_
              exact post_none (run_none HR Hrun (step_no HC (by omega) (by omega) (by omega) (by omega) (by omega))) rfl (((HM2.out.bw.setCell (Nat.le_refl _) _).setCell (Nat.le_refl _) _).setCell (Nat.le_refl _) _)
            · go_wp2
              obtain ⟨k0, k1, k2, _⟩ := three_cells (set_three HM2.out.r (.bool neg) (.string ⟨#[]⟩) (.int .i64 xe))
              refine bodyPost_ret (v := .tuple #[.agg #[.bool neg, .string ⟨#[]⟩, .int .i64 xe], .bool false]) (by simp [results, Tryd.results10, go_sem, k0, k1, k2]) rfl ?_
              exact post_none (run_none HR Hrun (step_no HC (by omega) (by omega) (by omega) (by omega) (by omega))) rfl (((HM2.out.bw.setCell (Nat.le_refl _) _).setCell (Nat.le_refl _) _).setCell (Nat.le_refl _) _)
          · have n43 := nb q43
            have n45 := nb q45
            have n46 := nb q46
            have Hq := Lib.hid (show C ≠ 43 ∧ C ≠ 45 ∧ C ≠ 46 from ⟨q43, q45, q46⟩)
            clear q43 q45 q46
            go_wp2
            obtain ⟨k0, k1, k2, _⟩ := three_cells (set_three HM2.out.r (.bool neg) (.string ⟨#[]⟩) (.int .i64 xe))
            refine bodyPost_ret (v := .tuple #[.agg #[.bool neg, .string ⟨#[]⟩, .int .i64 xe], .bool false]) (by simp [results, Tryd.results10, go_sem, k0, k1, k2]) rfl ?_
            exact post_none (have Hq' := Hq.out; run_none HR Hrun (step_no HC (by omega) (by omega) (by omega) (by omega) (by omega))) rfl (((HM2.out.bw.setCell (Nat.le_refl _) _).setCell (Nat.le_refl _) _).setCell (Nat.le_refl _) _)
          · have n43 := nb (C := C) (k := 43) (by omega)
            have n45 := nb (C := C) (k := 45) (by omega)
            have n69 := nb q69
            have n101 := nb q101
            have Hq := Lib.hid (show C ≠ 69 ∧ C ≠ 101 from ⟨q69, q101⟩)
            clear q69 q101
            go_wp2
            obtain ⟨k0, k1, k2, _⟩ := three_cells (set_three HM2.out.r (.bool neg) (.string ⟨#[]⟩) (.int .i64 xe))
            refine bodyPost_ret (v := .tuple #[.agg #[.bool neg, .string ⟨#[]⟩, .int .i64 xe], .bool false]) (by simp [results, Tryd.results10, go_sem, k0, k1, k2]) rfl ?_
            exact post_none (have Hq' := Hq.out; run_none HR Hrun (step_no HC (by omega) (by omega) (by omega) (by omega) (by omega))) rfl (((HM2.out.bw.setCell (Nat.le_refl _) _).setCell (Nat.le_refl _) _).setCell (Nat.le_refl _) _)
      · have ha' : 128 ≤ (s[pos]'hlt).toNat := by omega
        have hnx : ∀ ty, (Instr.next (.pointer (some ⟨w.heap.size + 1 + 1, 0, none⟩)) true ty).run Tryd.prog wr = _ := fun ty => Lib.run_next_any_at wr (w.heap.size + 1 + 1) s pos ty HM.out.it hlt
        have hdh := (decode_high s pos hlt ha').1
        have HR := Lib.hid (run_cons s pos hlt ⟨pt, neg, xe, ds, ex, dn⟩)
        have HH := Lib.hid ha'
        obtain ⟨C, hC⟩ : ∃ C : Int, ((Utf8.decode s pos).1 : Int) = C := ⟨_, rfl⟩
        obtain ⟨K, hK⟩ : ∃ K : Nat, pos + (Utf8.decode s pos).2 = K := ⟨_, rfl⟩
        rw [hC, hK] at hnx
        have q : 128 ≤ C := by omega
        have hM2 := HM.out.iterAt K
        obtain ⟨W, hWd⟩ : ∃ W, wr.iterAt (w.heap.size + 1 + 1) s K = W := ⟨_, rfl⟩
        rw [hWd] at hnx hM2
        clear hWd hC hK HM ha ha' hdh
        obtain ⟨hx0, hx1, hx2, hxf⟩ := three_cells hM2.x
        obtain ⟨hr0, hr1, hr2, hrf⟩ := three_cells hM2.r
        have hrf0 := hrf 0
        have hrf1 := hrf 1
        have hrf2 := hrf 2
        clear hxf hrf
        have HM2 := Lib.hid hM2
        clear hM2
        have n43 := nb (C := C) (k := 43) (by omega)
        have n45 := nb (C := C) (k := 45) (by omega)
        have n46 := nb (C := C) (k := 46) (by omega)
        have n69 := nb (C := C) (k := 69) (by omega)
        have n101 := nb (C := C) (k := 101) (by omega)
        by_cases hp0 : pos = 0
        · subst hp0
          go_wp2
          obtain ⟨k0, k1, k2, _⟩ := three_cells (set_three HM2.out.r (.bool neg) (.string ⟨#[]⟩) (.int .i64 xe))
          refine bodyPost_ret (v := .tuple #[.agg #[.bool neg, .string ⟨#[]⟩, .int .i64 xe], .bool false]) (by simp [results, Tryd.results10, go_sem, k0, k1, k2]) rfl ?_
          exact post_none (run_none HR Hrun (step_high HH.out)) rfl (((HM2.out.bw.setCell (Nat.le_refl _) _).setCell (Nat.le_refl _) _).setCell (Nat.le_refl _) _)
        · have hp1 : 1 ≤ pos := by omega
          clear hp0
          go_wp2
          obtain ⟨k0, k1, k2, _⟩ := three_cells (set_three HM2.out.r (.bool neg) (.string ⟨#[]⟩) (.int .i64 xe))
          refine bodyPost_ret (v := .tuple #[.agg #[.bool neg, .string ⟨#[]⟩, .int .i64 xe], .bool false]) (by simp [results, Tryd.results10, go_sem, k0, k1, k2]) rfl ?_
          exact post_none (run_none HR Hrun (step_high HH.out)) rfl (((HM2.out.bw.setCell (Nat.le_refl _) _).setCell (Nat.le_refl _) _).setCell (Nat.le_refl _) _)
    · have hnx : ∀ ty, (Instr.next (.pointer (some ⟨w.heap.size + 1 + 1, 0, none⟩)) true ty).run Tryd.prog wr = _ := fun ty => Lib.run_next_end_at wr (w.heap.size + 1 + 1) s pos ty HM.out.it hlt
      have Hfin : Hid (Pl.run s.data.toList 0 Pl.st0 = some ⟨pt, neg, xe, ds, ex, dn⟩) := by
        rw [← Hrun.out, List.drop_eq_nil_of_le (by simpa using Nat.le_of_not_lt hlt)]
        rfl
      have hM := HM.out
      clear HM Hrun Hst
      obtain ⟨hx0, hx1, hx2, hxf⟩ := three_cells hM.x
      have hxf1 := hxf 1
      have hxf2 := hxf 2
      obtain ⟨hr0, hr1, hr2, hrf⟩ := three_cells hM.r
      have hrf0 := hrf 0
      have hrf1 := hrf 1
      have hrf2 := hrf 2
      clear hxf hrf
      cases dn
      · rcases (by omega : ds.length = 0 ∨ (0 < ds.length ∧ pt = 4) ∨ (0 < ds.length ∧ pt = 5) ∨ (0 < ds.length ∧ pt ≠ 4 ∧ pt ≠ 5)) with q | ⟨q, rfl⟩ | ⟨q, rfl⟩ | ⟨q, q4, q5⟩
        · have q' : ¬ 0 < ds.length := by omega
          clear q
          have hX1 := hM.setX 2 (.int .i64 (xe + ex)) neg (xe + ex) rfl
          have hcv := convert_own hX1.own
          have HX1 := Lib.hid hX1
          have HM := Lib.hid hM
          clear hX1 hM
          go_wp2
          obtain ⟨k0, k1, k2, _⟩ := three_cells (set_three ((heap_setCell_ne 1 (.string ⟨ds.toArray⟩) (show w.heap.size ≠ w.heap.size + 1 by omega)).trans HX1.out.r) (.bool neg) (.string ⟨ds.toArray⟩) (.int .i64 (xe + ex)))
          refine bodyPost_ret (v := .tuple #[.agg #[.bool neg, .string ⟨ds.toArray⟩, .int .i64 (xe + ex)], .bool false]) (by simp [results, Tryd.results10, go_sem, k0, k1, k2]) rfl ?_
          exact post_none (parts_no Hfin.out (by omega)) rfl ((((HX1.out.bw.setCell (by simp) _).setCell (Nat.le_refl _) _).setCell (Nat.le_refl _) _).setCell (Nat.le_refl _) _)
        · have hX1 := hM.setX 2 (.int .i64 (xe + ex)) neg (xe + ex) rfl
          have hcv := convert_own hX1.own
          have HX1 := Lib.hid hX1
          have HM := Lib.hid hM
          clear hX1 hM
          go_wp2
          obtain ⟨k0, k1, k2, _⟩ := three_cells (set_three ((heap_setCell_ne 1 (.string ⟨ds.toArray⟩) (show w.heap.size ≠ w.heap.size + 1 by omega)).trans HX1.out.r) (.bool neg) (.string ⟨ds.toArray⟩) (.int .i64 (xe + ex)))
          refine bodyPost_ret (v := .tuple #[.agg #[.bool neg, .string ⟨ds.toArray⟩, .int .i64 (xe + ex)], .bool false]) (by simp [results, Tryd.results10, go_sem, k0, k1, k2]) rfl ?_
          exact post_none (parts_no Hfin.out (by omega)) rfl ((((HX1.out.bw.setCell (by simp) _).setCell (Nat.le_refl _) _).setCell (Nat.le_refl _) _).setCell (Nat.le_refl _) _)
        · have hX1 := hM.setX 2 (.int .i64 (xe + ex)) neg (xe + ex) rfl
          have hcv := convert_own hX1.own
          have HX1 := Lib.hid hX1
          have HM := Lib.hid hM
          clear hX1 hM
          go_wp2
          obtain ⟨k0, k1, k2, _⟩ := three_cells (set_three ((heap_setCell_ne 1 (.string ⟨ds.toArray⟩) (show w.heap.size ≠ w.heap.size + 1 by omega)).trans HX1.out.r) (.bool neg) (.string ⟨ds.toArray⟩) (.int .i64 (xe + ex)))
          refine bodyPost_ret (v := .tuple #[.agg #[.bool neg, .string ⟨ds.toArray⟩, .int .i64 (xe + ex)], .bool false]) (by simp [results, Tryd.results10, go_sem, k0, k1, k2]) rfl ?_
          exact post_none (parts_no Hfin.out (by omega)) rfl ((((HX1.out.bw.setCell (by simp) _).setCell (Nat.le_refl _) _).setCell (Nat.le_refl _) _).setCell (Nat.le_refl _) _)
        · have n4 := nb q4
          have n5 := nb q5
          have m4 : (pt != 4) = true := by simpa using q4
          have m5 : (pt != 5) = true := by simpa using q5
          have HQ := Lib.hid (show pt ≠ 4 ∧ pt ≠ 5 from ⟨q4, q5⟩)
          clear q4 q5
          have hX1 := hM.setX 2 (.int .i64 (xe + ex)) neg (xe + ex) rfl
          have hcv := convert_own hX1.own
          have HX1 := Lib.hid hX1
          have HM := Lib.hid hM
          clear hX1 hM
          go_wp2
          obtain ⟨k0, k1, k2, _⟩ := three_cells (set_three ((heap_setCell_ne 1 (.string ⟨ds.toArray⟩) (show w.heap.size ≠ w.heap.size + 1 by omega)).trans HX1.out.r) (.bool neg) (.string ⟨ds.toArray⟩) (.int .i64 (xe + ex)))
          refine bodyPost_ret (v := .tuple #[.agg #[.bool neg, .string ⟨ds.toArray⟩, .int .i64 (xe + ex)], .bool true]) (by simp [results, Tryd.results10, go_sem, k0, k1, k2]) rfl ?_
          exact post_some (parts_some Hfin.out q HQ.out.1 HQ.out.2) rfl ((((HX1.out.bw.setCell (by simp) _).setCell (Nat.le_refl _) _).setCell (Nat.le_refl _) _).setCell (Nat.le_refl _) _)
      · rcases (by omega : ds.length = 0 ∨ (0 < ds.length ∧ pt = 4) ∨ (0 < ds.length ∧ pt = 5) ∨ (0 < ds.length ∧ pt ≠ 4 ∧ pt ≠ 5)) with q | ⟨q, rfl⟩ | ⟨q, rfl⟩ | ⟨q, q4, q5⟩
        · have q' : ¬ 0 < ds.length := by omega
          clear q
          have hX1 := hM.setX 2 (.int .i64 (xe + -ex)) neg (xe + -ex) rfl
          have hcv := convert_own hX1.own
          have HX1 := Lib.hid hX1
          have HM := Lib.hid hM
          clear hX1 hM
          go_wp2
          obtain ⟨k0, k1, k2, _⟩ := three_cells (set_three ((heap_setCell_ne 1 (.string ⟨ds.toArray⟩) (show w.heap.size ≠ w.heap.size + 1 by omega)).trans HX1.out.r) (.bool neg) (.string ⟨ds.toArray⟩) (.int .i64 (xe + -ex)))
          refine bodyPost_ret (v := .tuple #[.agg #[.bool neg, .string ⟨ds.toArray⟩, .int .i64 (xe + -ex)], .bool false]) (by simp [results, Tryd.results10, go_sem, k0, k1, k2]) rfl ?_
          exact post_none (parts_no Hfin.out (by omega)) rfl ((((HX1.out.bw.setCell (by simp) _).setCell (Nat.le_refl _) _).setCell (Nat.le_refl _) _).setCell (Nat.le_refl _) _)
        · have hX1 := hM.setX 2 (.int .i64 (xe + -ex)) neg (xe + -ex) rfl
          have hcv := convert_own hX1.own
          have HX1 := Lib.hid hX1
          have HM := Lib.hid hM
          clear hX1 hM
          go_wp2
          obtain ⟨k0, k1, k2, _⟩ := three_cells (set_three ((heap_setCell_ne 1 (.string ⟨ds.toArray⟩) (show w.heap.size ≠ w.heap.size + 1 by omega)).trans HX1.out.r) (.bool neg) (.string ⟨ds.toArray⟩) (.int .i64 (xe + -ex)))
          refine bodyPost_ret (v := .tuple #[.agg #[.bool neg, .string ⟨ds.toArray⟩, .int .i64 (xe + -ex)], .bool false]) (by simp [results, Tryd.results10, go_sem, k0, k1, k2]) rfl ?_
          exact post_none (parts_no Hfin.out (by omega)) rfl ((((HX1.out.bw.setCell (by simp) _).setCell (Nat.le_refl _) _).setCell (Nat.le_refl _) _).setCell (Nat.le_refl _) _)
        · have hX1 := hM.setX 2 (.int .i64 (xe + -ex)) neg (xe + -ex) rfl
          have hcv := convert_own hX1.own
          have HX1 := Lib.hid hX1
          have HM := Lib.hid hM
          clear hX1 hM
          go_wp2
          obtain ⟨k0, k1, k2, _⟩ := three_cells (set_three ((heap_setCell_ne 1 (.string ⟨ds.toArray⟩) (show w.heap.size ≠ w.heap.size + 1 by omega)).trans HX1.out.r) (.bool neg) (.string ⟨ds.toArray⟩) (.int .i64 (xe + -ex)))
          refine bodyPost_ret (v := .tuple #[.agg #[.bool neg, .string ⟨ds.toArray⟩, .int .i64 (xe + -ex)], .bool false]) (by simp [results, Tryd.results10, go_sem, k0, k1, k2]) rfl ?_
          exact post_none (parts_no Hfin.out (by omega)) rfl ((((HX1.out.bw.setCell (by simp) _).setCell (Nat.le_refl _) _).setCell (Nat.le_refl _) _).setCell (Nat.le_refl _) _)
        · have n4 := nb q4
          have n5 := nb q5
          have m4 : (pt != 4) = true := by simpa using q4
          have m5 : (pt != 5) = true := by simpa using q5
          have HQ := Lib.hid (show pt ≠ 4 ∧ pt ≠ 5 from ⟨q4, q5⟩)
          clear q4 q5
          have hX1 := hM.setX 2 (.int .i64 (xe + -ex)) neg (xe + -ex) rfl
          have hcv := convert_own hX1.own
          have HX1 := Lib.hid hX1
          have HM := Lib.hid hM
          clear hX1 hM
          go_wp2
          obtain ⟨k0, k1, k2, _⟩ := three_cells (set_three ((heap_setCell_ne 1 (.string ⟨ds.toArray⟩) (show w.heap.size ≠ w.heap.size + 1 by omega)).trans HX1.out.r) (.bool neg) (.string ⟨ds.toArray⟩) (.int .i64 (xe + -ex)))
          refine bodyPost_ret (v := .tuple #[.agg #[.bool neg, .string ⟨ds.toArray⟩, .int .i64 (xe + -ex)], .bool true]) (by simp [results, Tryd.results10, go_sem, k0, k1, k2]) rfl ?_
          exact post_some (parts_some Hfin.out q HQ.out.1 HQ.out.2) rfl ((((HX1.out.bw.setCell (by simp) _).setCell (Nat.le_refl _) _).setCell (Nat.le_refl _) _).setCell (Nat.le_refl _) _)
end Go.Proofs.YtkfbpofjalcahaaDoor
