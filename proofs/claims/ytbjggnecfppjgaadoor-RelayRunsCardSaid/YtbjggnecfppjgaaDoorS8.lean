/- Decode, the program's and the reference's. -/
import Derived.Test.YtbjggnecfppjgaaDoorS7
namespace Go.Proofs.YtbjggnecfppjgaaDoor
open Go.RowKit

def dcL (wn : Nat) (f : Nat → ByteArray) (s : ByteArray) (e : Int) : List Nat := idL wn f 1 (fun _ => s) e
def dcI (wn : Nat) (f : Nat → ByteArray) (s : ByteArray) (e : Int) : Int := idE wn f 1 (fun _ => s) e
def dcN (wn : Nat) (f : Nat → ByteArray) (s : ByteArray) (e : Int) : Int := if dcI wn f s e = 0 ∧ (dcL wn f s e).length = 1 then ((dcL wn f s e).getD 0 0 : Nat) else 0
def dcE (wn : Nat) (f : Nat → ByteArray) (s : ByteArray) (e : Int) : Int := if dcI wn f s e = 0 then (if (dcL wn f s e).length = 1 then 0 else 3) else dcI wn f s e
theorem idE_cases (wn : Nat) (f : Nat → ByteArray) (gn : Nat) (g : Nat → ByteArray) (e : Int) : idE wn f gn g e = 0 ∨ idE wn f gn g e = 1 ∨ idE wn f gn g e = 102 := by
  unfold idE; split
  · split
    · exact .inl rfl
    · exact .inr (.inl rfl)
  · exact .inr (.inr rfl)
theorem Rd1.at0 {w : World} {B n : Nat} {A : Option Addr} {f1 : Nat → Int} (h : Rd1 w B A n f1) (hn : 0 < n) : ∃ b off, A = some ⟨b, off, none⟩ ∧ b < B ∧ w.cell? ⟨b, off, none⟩ = some (.int .i64 (f1 0)) := by
  rcases h with h | ⟨b, off, hA, hb, hc⟩
  · omega
  · exact ⟨b, off, hA, hb, hc 0 hn⟩
section
variable (wA : Option Addr) (wn wc B : Nat) (f : Nat → ByteArray) (s : ByteArray) (e : Int) (w : World) (hwn : wn ≤ 1048576) (hW : RdS w B wA wn f) (hB : B ≤ w.heap.size) (hSf : ∀ i, i < wn → (f i).size ≤ 1048576) (hs : s.size ≤ 1048576)
include hwn hW hB hSf hs
set_option maxRecDepth 100000 in
set_option maxHeartbeats 3200000 in
theorem pdecode_any (hwc : wn ≤ wc) (hwc2 : wc ≤ 9223372036854775807) :
    Calls Tryd.prog 30 #[.slice wA wn wc, .string s, .int .i64 e] w fun en w' => en = .returned (.tuple #[.int .i64 (dcN wn f s e), .int .i64 (dcE wn f s e)]) ∧ Below w.heap.size w w' := by
  have HN := Lib.hid (show dcN wn f s e = if dcI wn f s e = 0 ∧ (dcL wn f s e).length = 1 then (((dcL wn f s e).getD 0 0 : Nat) : Int) else 0 from rfl)
  have HE := Lib.hid (show dcE wn f s e = if dcI wn f s e = 0 then (if (dcL wn f s e).length = 1 then 0 else 3) else dcI wn f s e from rfl)
  have hb0 := belowAlloc w (.cells #[.string s] 9)
  have hG : RdS (w.alloc (.cells #[.string s] 9)) (w.heap.size + 1) (some ⟨w.heap.size, 0, none⟩) 1 (fun _ => s) := .inr ⟨w.heap.size, 0, rfl, by omega, fun i hi => by
    obtain rfl : i = 0 := by omega
    exact (Blk.new w _ _).cell 0⟩
  have HW := Lib.hid ((hW.below (hb0.mono hB)).more (show B ≤ w.heap.size + 1 by omega))
  have HG := Lib.hid hG
  have HB0 := Lib.hid hb0
  have hlen : (dcL wn f s e).length ≤ wn := by unfold dcL idL; split; exact M.elP_len _ _; simp
  have hI := idE_cases wn f 1 (fun _ => s) e
  clear hG hW hb0
  go_enter Tryd.func30, Tryd.ntmps30
  go_wp2_with fail
  refine (pidentify_any wA (some ⟨w.heap.size, 0, none⟩) wn wc 1 1 (w.heap.size + 1) f (fun _ => s) e _ hwn (by omega) HW.out HG.out (by simp) hSf (fun _ _ => hs) hwc hwc2).mono ?_
  rintro en w1 ⟨⟨v, rfl, ho⟩, hb1⟩
  obtain ⟨A1, c1, rfl, hl⟩ := ho.rd1
  have HB1 := Lib.hid (HB0.out.trans (hb1.mono (by simp)))
  have hl : Rd1 w1 w1.heap.size A1 (dcL wn f s e).length (nats (dcL wn f s e)) := hl
  obtain ⟨E0, hE0⟩ : ∃ E0, E0 = dcI wn f s e := ⟨_, rfl⟩
  rw [show idE wn f 1 (fun _ => s) e = E0 from hE0.symm] at hI ⊢
  rw [← hE0] at HN HE
  rw [show (idL wn f 1 (fun _ => s) e) = dcL wn f s e from rfl]
  obtain ⟨L, hL⟩ : ∃ L, L = dcL wn f s e := ⟨_, rfl⟩
  rw [← hL] at hl hlen HN HE ⊢
  clear ho hb1 hE0 hL
  by_cases h0 : E0 = 0
  · subst h0
    by_cases h1 : L.length = 1
    · have HN2 := Lib.hid (HN.out.trans (if_pos ⟨rfl, h1⟩))
      have HE2 := Lib.hid (HE.out.trans ((if_pos rfl).trans (if_pos h1)))
      have g1 : ((L.length : Int) != 1) = false := by rw [h1]; rfl
      obtain ⟨b, off, rfl, hb, c0⟩ := hl.at0 (by omega)
      clear HN HE hl hI
      go_wp2_with fail
      go_ret2
      exact ⟨by rw [HN2.out, HE2.out]; rfl, HB1.out⟩
    · have HN2 := Lib.hid (HN.out.trans (if_neg fun h => h1 h.2))
      have HE2 := Lib.hid (HE.out.trans ((if_pos rfl).trans (if_neg h1)))
      have g1 : ((L.length : Int) != 1) = true := by rw [bne_iff_ne]; omega
      clear HN HE hl hI
      go_wp2_with fail
      go_ret2
      exact ⟨by rw [HN2.out, HE2.out]; rfl, HB1.out⟩
  · have HN2 := Lib.hid (HN.out.trans (if_neg fun h => h0 h.1))
    have HE2 := Lib.hid (HE.out.trans (if_neg h0))
    have g1 : (E0 != 0) = true := by rw [bne_iff_ne]; exact h0
    clear HN HE hl
    go_wp2_with fail
    go_ret2
    exact ⟨by rw [HN2.out, HE2.out]; rfl, HB1.out⟩
end
end Go.Proofs.YtbjggnecfppjgaaDoor
