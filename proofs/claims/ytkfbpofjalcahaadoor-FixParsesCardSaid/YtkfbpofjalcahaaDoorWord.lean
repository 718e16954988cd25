/- DERIVED. The contract of fix.word (function 9): is a text a word that is no number in millionths: what the plain function 'Pl.word' says. -/
import Derived.Test.YtkfbpofjalcahaaDoorProg
import Derived.Test.YtkfbpofjalcahaaDoorPartsLem
import Derived.WalkKit
import Derived.WalkLawsBesides
import Derived.Outline
import Derived.OwnWalk
import Derived.Deep.DeepMust
import Derived.WalkSmall
import Derived.WalkSpells
import Derived.Lib.Hide
import Derived.Lib.IndexBytes
import Derived.Deep.DeepCutAuto
import Derived.Deep.CutBlock
import Derived.Lib.ConvBytes
import Derived.Laws.BytesArg
namespace Go.Proofs.YtkfbpofjalcahaaDoor
open Go Go.RowKit Go.Lib

theorem bytesWorld_free (w : World) (e : TypeId) (s : ByteArray) (j : Nat) (hj : j < s.size) : (bytesWorld w e s).frozen? ⟨w.heap.size, j, none⟩ = false := by
  have : ¬ (bytesCells w e s).size ≤ j := by simp [bytesCells]; omega
  simp [World.frozen?, bytesWorld_at_new, this]
theorem bytesWorld_below (w : World) (e : TypeId) (s : ByteArray) : Below w.heap.size w (bytesWorld w e s) := by
  refine ⟨?_, ?_, ?_, by rw [bytesWorld_size]; omega, fun k hk => bytesWorld_at_old w e s k hk⟩ <;> simp [bytesWorld, World.freeze, World.alloc, World.drew, -World.alloc_eq, -World.drew_eq]

theorem mk_list {m : List UInt8} {T : ByteArray} (h : (⟨m.toArray⟩ : ByteArray) = T) : T.data.toList = m := by subst h; simp

theorem isWord_eq (l : List UInt8) : Pl.isWord l = (l == [110, 97, 110] || l == [105, 110, 102] || l == [105, 110, 102, 105, 110, 105, 116, 121]) := by
  rw [Bool.eq_iff_iff]
  simp [Pl.isWord]

theorem low_id {c : UInt8} {C : Int} (HC : Hid ((c.toNat : Int) = C)) (h : C < 65 ∨ 90 < C) : Pl.low c = c := by
  have := HC.out
  unfold Pl.low
  rw [if_neg (by omega)]
theorem low_up {c : UInt8} {C : Int} (HC : Hid ((c.toNat : Int) = C)) (h1 : 65 ≤ C) (h2 : C ≤ 90) : ((Pl.low c).toNat : Int) = C + 97 - 65 := by
  have := HC.out
  unfold Pl.low
  rw [if_pos (by omega), UInt8.toNat_add]
  have e : (32 : UInt8).toNat = 32 := rfl
  rw [e]
  omega

/-- What the bytes' block holds behind k rounds. -/
def Lows (l : List UInt8) (n b k : Nat) (w : World) : Prop := ∀ j, j < n → w.cell? ⟨b, j, none⟩ = some (.int .u8 (if j < k then Pl.low (l.getD j 0) else l.getD j 0).toNat)

theorem lows_keep {l : List UInt8} {n b k : Nat} {w : World} (h : Lows l n b k w) (e : Pl.low (l.getD k 0) = l.getD k 0) : Lows l n b (k + 1) w := by
  intro j hj
  rw [h j hj]
  by_cases h1 : j < k
  · rw [if_pos h1, if_pos (by omega)]
  · rw [if_neg h1]
    by_cases h2 : j < k + 1
    · obtain rfl : j = k := by omega
      rw [if_pos h2, e]
    · rw [if_neg h2]
theorem lows_put {l : List UInt8} {n b k : Nat} {w : World} (h : Lows l n b k w) {V : Int} (hV : ((Pl.low (l.getD k 0)).toNat : Int) = V) : Lows l n b (k + 1) (w.setCell ⟨b, k, none⟩ (.int .u8 V)) := by
  intro j hj
  by_cases h2 : j = k
  · subst h2
    rw [World.cell?_setCell_same _ _ _ (h j hj), if_pos (by omega), hV]
  · rw [World.cell?_setCell_other w ⟨b, k, none⟩ ⟨b, j, none⟩ _ (fun e => h2 (by injection e; omega)), h j hj]
    by_cases h1 : j < k
    · rw [if_pos h1, if_pos (by omega)]
    · rw [if_neg h1, if_neg (by omega)]

theorem lows_convert {l : List UInt8} {b cap : Nat} {w : World} (h : Lows l l.length b l.length w) : (convert 46 9 (.slice (some ⟨b, 0, none⟩) l.length cap)).run Tryd.prog w = .ok (.string ⟨(l.map Pl.low).toArray⟩) w := by
  rw [run_convert_bytes_arg w 46 5 Tryd.underlying46 Tryd.underlying5 b 0 l.length cap ((l.map Pl.low).map fun b => (b.toNat : Int)) (by simp) (fun i hi => by
    have := h i hi
    rw [if_pos hi] at this
    rw [Nat.zero_add, this]
    simp [hi, List.getD]) 9 Tryd.underlying9]
  congr 2
  unfold strOfNums
  have hid' : ((fun n : Int => UInt8.ofNat n.toNat) ∘ (fun b : UInt8 => (b.toNat : Int)) ∘ Pl.low) = Pl.low := by funext b; simp
  simp [hid']

set_option maxHeartbeats 4000000 in
set_option maxRecDepth 1000000 in
theorem word_any (s : ByteArray) (w : World) (hs : s.size ≤ 400) :
    Calls Tryd.prog 9 #[.string s] w fun e w' => e = .returned (.bool (Pl.word s.data.toList)) ∧ Below w.heap.size w w' := by
  have hc := Lib.run_convert_string_bytes (P := Tryd.prog) w 9 46 5 s Tryd.underlying9 Tryd.underlying46 Tryd.underlying5
  obtain ⟨cap, hcap⟩ : ∃ cap, grownCap w s.size 0 5 = cap := ⟨_, rfl⟩
  rw [hcap] at hc
  have hcell := fun j hj => bytesWorld_cell w 5 s j hj
  have hfree := fun j hj => bytesWorld_free w 5 s j hj
  have hbelow := bytesWorld_below w 5 s
  obtain ⟨W, hW⟩ : ∃ W, bytesWorld w 5 s = W := ⟨_, rfl⟩
  rw [hW] at hc hbelow
  have Hcell : Hid (∀ j, j < s.size → W.cell? ⟨w.heap.size, j, none⟩ = some (.int .u8 (s.data.toList.getD j 0).toNat)) := fun j hj => by rw [← hW]; exact hcell j hj
  have Hfree : Hid (∀ j, j < s.size → W.frozen? ⟨w.heap.size, j, none⟩ = false) := fun j hj => by rw [← hW]; exact hfree j hj
  clear hcap hcell hfree hW
  go_enter Tryd.func9, Tryd.ntmps9
  go_wp2
  go_loopw [10] (fun i wr => ∃ k : Nat, k ≤ s.size ∧ i = .int .i64 k ∧ Below w.heap.size w wr ∧
      Hid (Lows s.data.toList s.size w.heap.size k wr) ∧
      Hid (∀ j, j < s.size → wr.frozen? ⟨w.heap.size, j, none⟩ = false)) (fun i _ => s.size - (intOf i).toNat)
  case atStart => exact ⟨0, by omega, rfl, hbelow, fun j hj => by rw [Hcell.out j hj, if_neg (by omega)], Hfree⟩
  case round =>
    obtain ⟨k, hk, rfl, hb, HC, HF⟩ := hrel
    by_cases hlt : k < s.size
    · have h1 := HC.out k hlt
      rw [if_neg (by omega)] at h1
      have h2 := HF.out k hlt
      obtain ⟨c, hc⟩ : ∃ c, s.data.toList.getD k 0 = c := ⟨_, rfl⟩
      rw [hc] at h1
      have Hc := Lib.hid hc
      clear hc
      obtain ⟨C, hC⟩ : ∃ C : Int, (c.toNat : Int) = C := ⟨_, rfl⟩
      rw [hC] at h1
      have h255 := UInt8.toNat_lt c
      have hC0 : 0 ≤ C := by omega
      have hC1 : C < 256 := by omega
      have HC' := Lib.hid hC
      clear hC h255
      rcases (by omega : C < 65 ∨ (65 ≤ C ∧ C ≤ 90) ∨ 90 < C) with q | ⟨q, q'⟩ | q
      · go_wp2
        go_roundw
        case rel => exact ⟨k + 1, by omega, by go_num, hb, lows_keep HC.out (by rw [Hc.out]; exact low_id HC' (by omega)), HF⟩
        case measure => simp [intOf]; omega
      · go_wp2
        go_roundw
        case rel => exact ⟨k + 1, by omega, by go_num, hb.setCell (Nat.le_refl _) _, lows_put HC.out (by rw [Hc.out]; exact low_up HC' q q'), fun j hj => by rw [World.frozen?_setCell]; exact HF.out j hj⟩
        case measure => simp [intOf]; omega
      · go_wp2
        go_roundw
        case rel => exact ⟨k + 1, by omega, by go_num, hb, lows_keep HC.out (by rw [Hc.out]; exact low_id HC' (by omega)), HF⟩
        case measure => simp [intOf]; omega
    · obtain rfl : k = s.size := by omega
      have hcv := lows_convert (l := s.data.toList) (b := w.heap.size) (cap := cap) (w := wr) (by have := HC.out; simpa using this)
      rw [show s.data.toList.length = s.size by simp] at hcv
      clear HC HF Hcell Hfree hc hbelow
      obtain ⟨m, hm⟩ : ∃ m, s.data.toList.map Pl.low = m := ⟨_, rfl⟩
      have hml : m.length = s.size := by rw [← hm]; simp
      have Hm : Hid (Pl.word s.data.toList = Pl.isWord (Pl.unsign m)) := by unfold Pl.word; rw [hm]; rfl
      rw [hm] at hcv
      have Hl := Lib.hid hml
      clear hm hml
      go_upto_region 9 with (fail)
      obtain ⟨T, hT⟩ : ∃ T : ByteArray, (⟨m.toArray⟩ : ByteArray) = T := ⟨_, rfl⟩
      have HT := Lib.hid (mk_list hT)
      rw [hT]
      clear hT hcv
      have HB := Lib.hid hb
      clear hb
      have fin : ∀ U : ByteArray, U.data.toList = Pl.unsign m → Hid (Pl.word s.data.toList = (U.toList == [110, 97, 110] || U.toList == [105, 110, 102] || U.toList == [105, 110, 102, 105, 110, 105, 116, 121])) := fun U hU => by
        show _ = _
        rw [Hm.out, ByteArray.toList_eq, hU, isWord_eq]
      by_cases h0 : T.size = 0
      · have hm0 : T.data.toList = [] := List.eq_nil_of_length_eq_zero (by simpa using h0)
        have HU := fin T (by rw [← HT.out, hm0]; rfl)
        obtain rfl : T = ⟨#[]⟩ := by obtain ⟨⟨l⟩⟩ := T; simp at hm0; subst hm0; rfl
        clear fin h0 hm0
        go_wp2
        go_ret
        exact ⟨by rw [HU.out]; simp, HB.out⟩
      · have hpos : 0 < T.size := by omega
        have hne : T.toList.isEmpty = false := by rw [ByteArray.toList_eq]; cases h : T.data.toList with
          | nil => exact absurd (by simpa using congrArg List.length h) h0
          | cons a r => rfl
        have hnn : ¬ T.toList = [] := by intro h; rw [h] at hne; cases hne
        have hcons : T.data.toList = T[0] :: T.data.toList.drop 1 := by
          have := List.drop_eq_getElem_cons (l := T.data.toList) (i := 0) (by simpa using hpos)
          rw [List.drop_zero] at this
          exact this
        have hun : T[0].toNat = 43 ∨ T[0].toNat = 45 → (T.extract 1 T.size).data.toList = Pl.unsign m := fun h => by
          rw [Lib.extract_to_end, ← HT.out]
          rw [hcons]
          simp [Pl.unsign, h]
        have hunn : ¬ (T[0].toNat = 43 ∨ T[0].toNat = 45) → T.data.toList = Pl.unsign m := fun h => by
          rw [← HT.out]
          rw [hcons]
          simp [Pl.unsign, h]
        obtain ⟨C, hC⟩ : ∃ C : Int, (T[0].toNat : Int) = C := ⟨_, rfl⟩
        by_cases hs : C = 43 ∨ C = 45
        · have HU := fin _ (hun (by omega))
          have HC := Lib.hid hC
          clear h0 hcons hun hunn fin HT
          rcases hs with rfl | rfl
          all_goals
            go_wp2
            all_goals
              go_ret
              exact ⟨by rw [HU.out]; first | rfl | simp [*], HB.out⟩
        · have HU := fin _ (hunn (by omega))
          have HC := Lib.hid hC
          clear h0 hcons hun hunn fin HT
          have n1 : (C == 43) = false := by simp; omega
          have n2 : (C == 45) = false := by simp; omega
          clear hs
          go_wp2
          all_goals
            go_ret
            exact ⟨by rw [HU.out]; first | rfl | simp [*], HB.out⟩
end Go.Proofs.YtkfbpofjalcahaaDoor
