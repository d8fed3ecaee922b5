/- strings.Trim at the letters from a to z: its contract off the library's shelf, laid by the kit's program at this dump (numbers and all), and what the program's test of a word makes of it. -/
import Derived.Test.YtfnfjmjejffjiaaDoorBase
import Derived.Shelf.Strings.SlTrimAscii
import Derived.Test.YtfnfjmjejffjiaaDoorWMath
namespace Go.Proofs
open Go.Shelf
def Tryd.lays160_ren : Go.Shelf.Ren := ⟨fun | 160 => 48 | 232 => 51 | 231 => 50 | 227 => 52 | 234 => 54 | 233 => 53 | 236 => 56 | 235 => 55 | 228 => 57 | 271 => 60 | 151 => 59 | 197 => 58 | 120 => 63 | 152 => 62 | 260 => 61 | 137 => 64 | 119 => 65 | 224 => 66 | 225 => 67 | 217 => 68 | 266 => 69 | n => n, fun | 9 => 9 | 4 => 4 | 3 => 3 | 5 => 5 | 117 => 101 | 116 => 100 | 0 => 0 | 124 => 104 | 21 => 21 | 105 => 106 | 46 => 111 | 119 => 110 | 139 => 114 | 138 => 113 | n => n, fun | 3 => 0 | 4 => 1 | n => n⟩
theorem Tryd.lays160 : Go.Proofs.Lays.n160 Tryd.prog Tryd.lays160_ren := {
  mixed := by kernel_rfl
  f119 := Tryd.func65.trans (congrArg some (by kernel_rfl))
  f120 := Tryd.func63.trans (congrArg some (by kernel_rfl))
  f137 := Tryd.func64.trans (congrArg some (by kernel_rfl))
  f151 := Tryd.func59.trans (congrArg some (by kernel_rfl))
  f152 := Tryd.func62.trans (congrArg some (by kernel_rfl))
  f160 := Tryd.func48.trans (congrArg some (by kernel_rfl))
  f197 := Tryd.func58.trans (congrArg some (by kernel_rfl))
  f217 := Tryd.func68.trans (congrArg some (by kernel_rfl))
  f224 := Tryd.func66.trans (congrArg some (by kernel_rfl))
  f225 := Tryd.func67.trans (congrArg some (by kernel_rfl))
  f227 := Tryd.func52.trans (congrArg some (by kernel_rfl))
  f228 := Tryd.func57.trans (congrArg some (by kernel_rfl))
  f231 := Tryd.func50.trans (congrArg some (by kernel_rfl))
  f232 := Tryd.func51.trans (congrArg some (by kernel_rfl))
  f233 := Tryd.func53.trans (congrArg some (by kernel_rfl))
  f234 := Tryd.func54.trans (congrArg some (by kernel_rfl))
  f235 := Tryd.func55.trans (congrArg some (by kernel_rfl))
  f236 := Tryd.func56.trans (congrArg some (by kernel_rfl))
  f260 := Tryd.func61.trans (congrArg some (by kernel_rfl))
  f266 := Tryd.func69.trans (congrArg some (by kernel_rfl))
  f271 := Tryd.func60.trans (congrArg some (by kernel_rfl))
  t0 := Tryd.underlying0
  a0 := Tryd.isAgg0
  z0 := Tryd.sizeOf0
  v0 := Tryd.zeroValue0
  t3 := Tryd.underlying3
  a3 := Tryd.isAgg3
  z3 := Tryd.sizeOf3
  v3 := Tryd.zeroValue3
  t4 := Tryd.underlying4
  a4 := Tryd.isAgg4
  z4 := Tryd.sizeOf4
  v4 := Tryd.zeroValue4
  t5 := Tryd.underlying5
  a5 := Tryd.isAgg5
  z5 := Tryd.sizeOf5
  v5 := Tryd.zeroValue5
  t9 := Tryd.underlying9
  a9 := Tryd.isAgg9
  z9 := Tryd.sizeOf9
  v9 := Tryd.zeroValue9
  t21 := Tryd.underlying21
  a21 := Tryd.isAgg21
  z21 := Tryd.sizeOf21
  v21 := Tryd.zeroValue21
  t46 := Tryd.underlying111
  a46 := Tryd.isAgg111
  z46 := Tryd.sizeOf111
  v46 := Tryd.zeroValue111
  t105 := Tryd.underlying106
  a105 := Tryd.isAgg106
  z105 := Tryd.sizeOf106
  v105 := Tryd.zeroValue106
  t116 := Tryd.underlying100
  a116 := Tryd.isAgg100
  z116 := Tryd.sizeOf100
  t117 := Tryd.underlying101
  a117 := Tryd.isAgg101
  z117 := Tryd.sizeOf101
  v117 := Tryd.zeroValue101
  t119 := Tryd.underlying110
  a119 := Tryd.isAgg110
  z119 := Tryd.sizeOf110
  t124 := Tryd.underlying104
  a124 := Tryd.isAgg104
  z124 := Tryd.sizeOf104
  v124 := Tryd.zeroValue104
  t138 := Tryd.underlying113
  a138 := Tryd.isAgg113
  z138 := Tryd.sizeOf113
  v138 := Tryd.zeroValue113
  t139 := Tryd.underlying114
  a139 := Tryd.isAgg114
  z139 := Tryd.sizeOf114
  v139 := Tryd.zeroValue114
  g3 := by kernel_rfl
  g4 := by kernel_rfl }
end Go.Proofs
namespace Go.Proofs.YtfnfjmjejffjiaaDoor
open Go.RowKit

def letters : List UInt8 := [97, 98, 99, 100, 101, 102, 103, 104, 105, 106, 107, 108, 109, 110, 111, 112, 113, 114, 115, 116, 117, 118, 119, 120, 121, 122]
set_option maxRecDepth 100000 in
theorem in_letters (b : UInt8) : letters.contains b = (decide (97 ≤ b.toNat) && decide (b.toNat ≤ 122)) := by
  have h : ∀ n : Fin 256, letters.contains (UInt8.ofNat n.val) = (decide (97 ≤ n.val) && decide (n.val ≤ 122)) := by decide
  have := h ⟨b.toNat, b.toNat_lt⟩
  simpa using this
theorem dropWhile_nil {α : Type} (p : α → Bool) (l : List α) : (l.dropWhile p).isEmpty = l.all p := by
  induction l with
  | nil => rfl
  | cons a l ih =>
    rw [List.dropWhile_cons]
    cases h : p a
    · simp [h]
    · simp [h, ih]
theorem trim_nil (l cs : List UInt8) : (Lib.trimS l cs).isEmpty = l.all fun b => cs.contains b := by
  unfold Lib.trimS Lib.trimLeftS Lib.trimRightS
  rw [dropWhile_nil]
  cases h : l.all fun b => cs.contains b
  · have h1 : ∃ x, x ∈ l ∧ cs.contains x = false := by
      refine Classical.byContradiction fun hn => ?_
      rw [List.all_eq_true.2 fun x hx => ?_] at h
      · cases h
      · cases hc : cs.contains x
        · exact absurd ⟨x, hx, hc⟩ hn
        · rfl
    cases h2 : (l.reverse.dropWhile fun b => cs.contains b).reverse.all fun b => cs.contains b
    · rfl
    · exfalso
      have h3 : (l.reverse.dropWhile fun b => cs.contains b).all (fun b => cs.contains b) = true := by rw [← List.all_reverse]; exact h2
      have h4 : (l.reverse.dropWhile fun b => cs.contains b) = [] := by
        cases h5 : l.reverse.dropWhile fun b => cs.contains b with
        | nil => rfl
        | cons a m =>
          have h6 := List.head?_dropWhile_not (fun b => cs.contains b) l.reverse
          rw [h5] at h6 h3
          simp only [List.head?_cons, List.all_cons, Bool.and_eq_true] at h6 h3
          rw [h3.1] at h6; cases h6
      have h7 : l.reverse.all (fun b => cs.contains b) = true := by rw [← dropWhile_nil, h4]; rfl
      rw [List.all_reverse] at h7
      rw [h7] at h; cases h
  · have h1 : (l.reverse.dropWhile fun b => cs.contains b) = [] := by
      have := dropWhile_nil (fun b => cs.contains b) l.reverse
      rw [List.all_reverse, h] at this
      exact List.isEmpty_iff.1 this
    rw [h1]; rfl
theorem low_all (s : ByteArray) : M.low s = s.data.toList.all fun b => letters.contains b := by
  rw [Bool.eq_iff_iff]
  unfold M.low
  rw [M.allTo_iff, List.all_eq_true]
  constructor
  · intro h x hx
    obtain ⟨i, hi, e⟩ := List.mem_iff_getElem.1 hx
    have := h i hi
    unfold M.chr at this
    rw [List.getD_eq_getElem?_getD, List.getElem?_eq_getElem hi, Option.getD_some, e] at this
    rw [in_letters]; exact this
  · intro h i hi
    have hi' : i < s.data.toList.length := hi
    unfold M.chr
    rw [List.getD_eq_getElem?_getD, List.getElem?_eq_getElem hi', Option.getD_some, ← in_letters]
    exact h _ (List.getElem_mem hi')
theorem trim_any (s : ByteArray) (w : World) (hs : s.size ≤ 9223372036854775807) :
    Calls Tryd.prog 48 #[.string s, .string ⟨#[97, 98, 99, 100, 101, 102, 103, 104, 105, 106, 107, 108, 109, 110, 111, 112, 113, 114, 115, 116, 117, 118, 119, 120, 121, 122]⟩] w fun e w' => ∃ r : ByteArray, (e = .returned (.string r) ∧ r.toList.isEmpty = M.low s) ∧ Below w.heap.size w w' := by
  have hcon := Any.strings_Trim_laid Tryd.lays160 (by kernel_rfl) s ⟨#[97, 98, 99, 100, 101, 102, 103, 104, 105, 106, 107, 108, 109, 110, 111, 112, 113, 114, 115, 116, 117, 118, 119, 120, 121, 122]⟩ w hs (by decide) (ascii_of_all (by decide))
  refine Calls.mono hcon ?_
  rintro e w' ⟨rfl, hb⟩
  refine ⟨_, ⟨rfl, ?_⟩, hb⟩
  rw [ByteArray.toList_mk, low_all, ← trim_nil]
  cases h : Lib.trimS s.data.toList letters with
  | nil => rw [show (⟨#[97, 98, 99, 100, 101, 102, 103, 104, 105, 106, 107, 108, 109, 110, 111, 112, 113, 114, 115, 116, 117, 118, 119, 120, 121, 122]⟩ : ByteArray).data.toList = letters from rfl, h]
  | cons a l => rw [show (⟨#[97, 98, 99, 100, 101, 102, 103, 104, 105, 106, 107, 108, 109, 110, 111, 112, 113, 114, 115, 116, 117, 118, 119, 120, 121, 122]⟩ : ByteArray).data.toList = letters from rfl, h]
theorem word_any (s : ByteArray) (w : World) (hs : s.size ≤ 9223372036854775807) :
    Calls Tryd.prog 43 #[.string s] w fun e w' => e = .returned (.bool (M.isW s)) ∧ Below w.heap.size w w' := by
  by_cases h1 : 1 ≤ s.size
  · by_cases h2 : s.size ≤ 12
    · have hx : M.isW s = M.low s := by unfold M.isW; simp [h1, h2]
      have HX := Lib.hid hx
      have g1 : decide ((1 : Int) ≤ (s.size : Int)) = true := decide_eq_true (by omega)
      have g2 : decide ((s.size : Int) ≤ 12) = true := decide_eq_true (by omega)
      clear hx
      go_enter Tryd.func43, Tryd.ntmps43
      go_wp2_with (go_at_call 48; refine (trim_any _ _ hs).mono ?_; rintro e w1 ⟨r, ⟨rfl, hr⟩, hb⟩; have HR := Lib.hid hr; have HB := Lib.hid hb; clear hr hb)
      go_ret
      exact ⟨ret_bool (by rw [HX.out]; exact HR.out), HB.out⟩
    · have hx : M.isW s = false := by unfold M.isW; simp [h2]
      go_enter Tryd.func43, Tryd.ntmps43
      go_wp2_with fail
      go_ret
      exact ⟨rfl, Below.refl _ _⟩
  · have hx : M.isW s = false := by unfold M.isW; simp [h1]
    go_enter Tryd.func43, Tryd.ntmps43
    go_wp2_with fail
    go_ret
    exact ⟨rfl, Below.refl _ _⟩
end Go.Proofs.YtfnfjmjejffjiaaDoor
