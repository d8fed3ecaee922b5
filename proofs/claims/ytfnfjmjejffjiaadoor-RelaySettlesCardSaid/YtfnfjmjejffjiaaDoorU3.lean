/- The program: the events that may settle a call, one after the other. -/
import Derived.Test.YtfnfjmjejffjiaaDoorLd
import Derived.Test.YtfnfjmjejffjiaaDoorMp
import Derived.RangeFuncNested
import Derived.RangeFuncBound
import Derived.Shelf.RegionOpen
import Derived.TacticsInMore
import Derived.LoopNIn
import Derived.LoopIn
import Derived.RangeFuncBox
namespace Go.Proofs.YtfnfjmjejffjiaaDoor
open Go.RowKit Go.Maps

/-- what is yielded: an event and the state behind it -/
def encN (n : Nat) (x : (Int × Nat) × M.St) : Array Value := #[.agg #[.int .i64 x.1.1, .int .i64 (x.1.2 : Int), .int .i64 0], .agg (stV n x.2)]
/-- what is known in the region that makes an event and the state to which it is applied -/
structure NxI (X : World) (kk q : Int) (cs : Array Value) (b0 b1 b2 b3 b4 b5 b6 b7 : Bool) (x22 x23 x24 x25 x6 x7 : Value) (V : World) : Prop where
  b : Below X.heap.size X V
  h0 : b0 = true → x22 = .int .i64 kk
  h1 : b1 = true → x23 = .int .i64 q
  h2 : b2 = true → x24 = .agg #[.int .i64 kk, .int .i64 q, .int .i64 0]
  h3 : b3 = true → x25 = .agg cs
  h4 : b4 = true → ∃ g, X.heap.size ≤ g ∧ x6 = .pointer (some ⟨g, 0, none⟩) ∧ Blk V g 38 (if b6 = true then #[.int .i64 kk, .int .i64 q, .int .i64 0] else #[.int .i64 0, .int .i64 0, .int .i64 0])
  h5 : b5 = true → ∃ g, X.heap.size ≤ g ∧ x7 = .pointer (some ⟨g, 0, none⟩) ∧ Blk V g 57 (if b7 = true then cs else litZ)
  c6 : b6 = true → b4 = true
  c7 : b7 = true → b5 = true
theorem M.evL_at {n : Nat} {s : M.St} {q kd : Nat} {kk : Int} (h : (kd = 0 ∧ kk = 2) ∨ (kd = 1 ∧ kk = 5)) (hq : q < M.mx n s) : (M.evL n s)[kd * M.mx n s + q]? = some (kk, q) := by
  rcases h with ⟨rfl, rfl⟩ | ⟨rfl, rfl⟩
  · rw [Nat.zero_mul, Nat.zero_add]; exact M.evL_two hq
  · rw [Nat.one_mul]; exact M.evL_five hq
theorem ite_tt {c : Prop} [Decidable c] {a b : Prop} (hc : c) (h : a) : if c then a else b := by rw [if_pos hc]; exact h
theorem Blk.ne_type {w : World} {g g' t t' : Nat} {cs cs' : Array Value} (h : Blk w g t cs) (h' : Blk w g' t' cs') (ht : t ≠ t') : g ≠ g' := fun e => by
  subst e
  unfold Blk at h h'
  rw [h] at h'
  injection h' with h'
  injection h' with _ h2
  exact ht h2
section
variable {X V : World} {kk q : Int} {cs : Array Value} {b0 b1 b2 b3 b4 b5 b6 b7 : Bool} {x22 x23 x24 x25 x6 x7 : Value}
theorem NxI.no6 (h : NxI X kk q cs b0 b1 b2 b3 false b5 b6 b7 x22 x23 x24 x25 x6 x7 V) : b6 = false := by
  cases hb : b6
  · rfl
  · exact absurd (h.c6 hb) (by simp)
theorem NxI.no7 (h : NxI X kk q cs b0 b1 b2 b3 b4 false b6 b7 x22 x23 x24 x25 x6 x7 V) : b7 = false := by
  cases hb : b7
  · rfl
  · exact absurd (h.c7 hb) (by simp)
theorem NxI.alloc4 (h : NxI X kk q cs b0 b1 b2 b3 false b5 b6 b7 x22 x23 x24 x25 x6 x7 V) : NxI X kk q cs b0 b1 b2 b3 true b5 b6 b7 x22 x23 x24 x25 (.pointer (some ⟨V.heap.size, 0, none⟩)) x7 (V.alloc (.cells #[.int .i64 0, .int .i64 0, .int .i64 0] 38)) := by
  have hb := belowAlloc V (.cells #[.int .i64 0, .int .i64 0, .int .i64 0] 38)
  obtain rfl := h.no6
  refine ⟨h.b.trans (hb.mono h.b.size), h.h0, h.h1, h.h2, h.h3, fun _ => ⟨_, h.b.size, rfl, Blk.new V _ _⟩, fun e => ?_, fun _ => rfl, h.c7⟩
  obtain ⟨g, k1, k2, k3⟩ := h.h5 e
  exact ⟨g, k1, k2, k3.alloc _⟩
theorem NxI.alloc5 (h : NxI X kk q cs b0 b1 b2 b3 b4 false b6 b7 x22 x23 x24 x25 x6 x7 V) : NxI X kk q cs b0 b1 b2 b3 b4 true b6 b7 x22 x23 x24 x25 x6 (.pointer (some ⟨V.heap.size, 0, none⟩)) (V.alloc (.cells litZ 57)) := by
  have hb := belowAlloc V (.cells litZ 57)
  obtain rfl := h.no7
  refine ⟨h.b.trans (hb.mono h.b.size), h.h0, h.h1, h.h2, h.h3, fun e => ?_, fun _ => ⟨_, h.b.size, rfl, Blk.new V _ _⟩, h.c6, fun _ => rfl⟩
  obtain ⟨g, k1, k2, k3⟩ := h.h4 e
  exact ⟨g, k1, k2, k3.alloc _⟩
theorem NxI.store6 (h : NxI X kk q cs b0 b1 b2 b3 b4 b5 false b7 x22 x23 x24 x25 x6 x7 V) {g : Nat} (hg : x6 = .pointer (some ⟨g, 0, none⟩)) (h4 : b4 = true) : NxI X kk q cs b0 b1 b2 b3 b4 b5 true b7 x22 x23 x24 x25 x6 x7 (((V.setCell ⟨g, 0, none⟩ (.int .i64 kk)).setCell ⟨g, 1, none⟩ (.int .i64 q)).setCell ⟨g, 2, none⟩ (.int .i64 0)) := by
  obtain ⟨g', k1, k2, k3⟩ := h.h4 h4
  rw [hg] at k2
  injection k2 with k2; injection k2 with k2; injection k2 with k2
  subst k2
  rw [if_neg (by simp)] at k3
  have hB : Below X.heap.size V (((V.setCell ⟨g, 0, none⟩ (.int .i64 kk)).setCell ⟨g, 1, none⟩ (.int .i64 q)).setCell ⟨g, 2, none⟩ (.int .i64 0)) := (((Below.refl _ V).setCell k1 _).setCell k1 _).setCell k1 _
  refine ⟨h.b.trans hB, h.h0, h.h1, h.h2, h.h3, fun _ => ⟨g, k1, hg, ((k3.set_ 0 _).set_ 1 _).set_ 2 _⟩, fun e => ?_, fun _ => h4, h.c7⟩
  obtain ⟨g2, j1, j2, j3⟩ := h.h5 e
  have hne : g2 ≠ g := Blk.ne_type j3 k3 (by decide)
  exact ⟨g2, j1, j2, ((j3.far hne _).far hne _).far hne _⟩
theorem NxI.store7 (h : NxI X kk q cs b0 b1 b2 b3 b4 b5 b6 false x22 x23 x24 x25 x6 x7 V) (hs : cs.size = 38) {g : Nat} (hg : x7 = .pointer (some ⟨g, 0, none⟩)) (h5 : b5 = true) : NxI X kk q cs b0 b1 b2 b3 b4 b5 b6 true x22 x23 x24 x25 x6 x7 (V.setRow g cs) := by
  obtain ⟨g', k1, k2, k3⟩ := h.h5 h5
  rw [hg] at k2
  injection k2 with k2; injection k2 with k2; injection k2 with k2
  subst k2
  rw [if_neg (by simp)] at k3
  have hR := k3.setRow_ (cs := cs) (by rw [hs]; rfl)
  have hB : Below X.heap.size V (V.setRow g cs) := ⟨hR.2.os, hR.2.tape, hR.2.output, hR.2.size, fun k hk => hR.2.block k (by have := h.b.size; omega) (fun e => by injection e with e; omega)⟩
  refine ⟨h.b.trans hB, h.h0, h.h1, h.h2, h.h3, fun e => ?_, fun _ => ⟨g, k1, hg, hR.1⟩, h.c6, fun _ => h5⟩
  obtain ⟨g2, j1, j2, j3⟩ := h.h4 e
  exact ⟨g2, j1, j2, j3.grown hR.2 (fun e => by injection e with e; exact Blk.ne_type j3 k3 (by decide) e)⟩
end
set_option maxRecDepth 100000 in
set_option maxHeartbeats 12800000 in
theorem next1_seq (n g : Nat) (s : M.St) (hn : 2 ≤ n ∧ n ≤ 4) (hok : M.Okk n s) :
    SeqF Fence.wide 3 Tryd.prog 31 #[.pointer (some ⟨g, 0, none⟩)] (encN n) (fun A B => Below A.heap.size A B) (fun W => Sf W g (stF n s)) (fun xs => xs = M.nxt n s) (fun _ => True) (fun pre x => (M.nxt n s)[pre.length]? = some x) := by
  intro l J Jx W hIv hAb hNew hAbx hY h0
  show CallsIn Fence.wide 3 Tryd.prog 31 #[.func (.yield l) #[] #[], .pointer (some ⟨g, 0, none⟩)] W _
  have HIV := Lib.hid hIv
  have HAB := Lib.hid hAb
  have HNW := Lib.hid hNew
  have HY := Lib.hid hY
  have HJ0 := Lib.hid (hNew _ _ _ (.cells #[.int .i64 2, .int .i64 5] 3) h0)
  have HL0 := Lib.hid (Blk.new W 3 #[.int .i64 2, .int .i64 5])
  obtain ⟨mx, hmx⟩ : ∃ x, x = M.mx n s := ⟨_, rfl⟩
  have HMX := Lib.hid hmx
  have hk6 := hok.wf.k6
  have hn4 := hn.2
  have hmx6 : mx ≤ 6 := by rw [hmx, M.mx_val]; omega
  have HOK := Lib.hid hok
  have hzs : W.heap.size < (W.alloc (.cells #[.int .i64 2, .int .i64 5] 3)).heap.size := by simp
  clear hIv hAb hNew hAbx hY h0 hmx hok hn
  refine callsIn_of_wp Tryd.func31 rfl trivial ?_ rfl
  simp only [Tryd.ntmps31, List.size_toArray, List.length_cons, List.length_nil, Nat.reduceAdd, Nat.reduceSub, Array.replicate_succ, Array.replicate_zero, List.push_toArray, List.append_toArray, List.nil_append, List.cons_append]
  gi_wp2_with fail
  generalize W.alloc (.cells #[.int .i64 2, .int .i64 5] 3) = X at HJ0 HL0 hzs ⊢
  generalize W.heap.size = b0 at HJ0 HL0 hzs ⊢
  gi_loopw [10] (fun k wr => ∃ kd : Nat, kd ≤ 2 ∧ k = .int .i64 (kd : Int) ∧ ∃ T : Nat → Prop, Hid (T b0) ∧ Hid (J T ((M.nxtQ n s (kd * mx))) wr) ∧ Hid (Blk wr b0 3 #[.int .i64 2, .int .i64 5])) (fun k _ => 2 - (intOf k).toNat)
  case atStart => exact ⟨0, by omega, rfl, fun k => False ∨ k = b0, Lib.hid (Or.inr rfl), Lib.hid (by rw [Nat.zero_mul]; exact HJ0.out), HL0⟩
  case round =>
    obtain ⟨kd, hkd, rfl, T, HT, HJ, HL⟩ := hrel
    clear HJ0 HL0 hzs
    by_cases hlt : kd < 2
    · have g1 : decide (kd < 2) = true := decide_eq_true hlt
      have g1' : decide ((kd : Int) < 2) = true := decide_eq_true (by omega)
      obtain ⟨kk, hkk⟩ : ∃ kk : Int, (kd = 0 ∧ kk = 2) ∨ (kd = 1 ∧ kk = 5) := by
        by_cases e : kd = 0
        · exact ⟨2, .inl ⟨e, rfl⟩⟩
        · exact ⟨5, .inr ⟨by omega, rfl⟩⟩
      have HKK := Lib.hid hkk
      have c0 : wr.cell? ⟨b0, kd, none⟩ = some (.int .i64 kk) := by
        rcases hkk with ⟨rfl, rfl⟩ | ⟨rfl, rfl⟩
        · exact HL.out.cell 0
        · exact HL.out.cell 1
      have HS := Lib.hid (HIV.out _ _ _ HJ.out)
      have c1 := HS.out.cn
      have c2 := HS.out.ck
      clear hkk
      have HTL := Lib.hid (show ∀ q : Nat, q < mx → decide ((q : Int) < max (s.k : Int) (n : Int)) = true from fun q hq => decide_eq_true (by rw [HMX.out, M.mx_val] at hq; omega))
      have HTN := Lib.hid (show decide ((mx : Int) < max (s.k : Int) (n : Int)) = false from decide_eq_false (by rw [HMX.out, M.mx_val]; omega))
      gi_wp2_with fail
      gi_loopw [19] (fun k wr => ∃ q : Nat, q ≤ mx ∧ k = .int .i64 (q : Int) ∧ ∃ T : Nat → Prop, Hid (T b0) ∧ Hid (J T ((M.nxtQ n s (kd * mx + q))) wr) ∧ Hid (Blk wr b0 3 #[.int .i64 2, .int .i64 5])) (fun k _ => mx - (intOf k).toNat)
      case atStart => exact ⟨0, Nat.zero_le _, rfl, T, HT, HJ, HL⟩
      case round =>
        clear HT HJ HL HS c0 c1 c2 T
        obtain ⟨q, hq, rfl, T, HT, HJ, HL⟩ := hrel
        by_cases hqt : q < mx
        · have g2 := HTL.out q hqt
          have HS := Lib.hid (HIV.out _ _ _ HJ.out)
          gi_wp2_with fail
          refine wpIn_region_TI 7 (fun _ => True) (by kernel_rfl) trivial ?_
          intro _
          refine wpAnyTI_inv (fun listed a V => ∃ (b0' b1' b2' b3' b4' b5' b6' b7' : Bool) (x22 x23 x24 x25 x6 x7 : Value), listed = #[b0', b1', b2', b3', b4', b5', b6', b7'] ∧ a = { tmps := List.toArray (.func (.yield l) #[] #[] :: .pointer (some ⟨g, 0, none⟩) :: undef :: undef :: .int .i64 kk :: .int .i64 (q : Int) :: x6 :: x7 :: .slice (some ⟨b0, 0, none⟩) 2 2 :: .int .i64 2 :: .int .i64 (kd : Int) :: .bool true :: .pointer (some ⟨b0, kd, none⟩) :: .int .i64 kk :: .pointer (some ⟨g, 37, none⟩) :: .int .i64 (s.k : Int) :: .pointer (some ⟨g, 0, none⟩) :: .int .i64 (n : Int) :: .int .i64 (max (s.k : Int) (n : Int)) :: .int .i64 (q : Int) :: .bool true :: .int .i64 (q : Int) :: x22 :: x23 :: x24 :: x25 :: u26 :: u27 :: u28 :: u29 :: u30 :: u31 :: u32 :: u33 :: u34 :: u35 :: u36 :: []), defers := [] } ∧ NxI wr kk (q : Int) (stV n s) b0' b1' b2' b3' b4' b5' b6' b7' x22 x23 x24 x25 x6 x7 V) ?_ ?_ _ _ _ _ (of_decide_eq_true (by kernel_rfl)) ?_
          rotate_left 2
          · exact ⟨false, false, false, false, false, false, false, false, u22, u23, u24, u25, u6, u7, rfl, rfl, ⟨(Below.refl _ _).drew, fun h => (by cases h), fun h => (by cases h), fun h => (by cases h), fun h => (by cases h), fun h => (by cases h), fun h => (by cases h), fun h => (by cases h), fun h => (by cases h)⟩⟩
          rotate_left
          · skip
            rintro listed a V i o hlt2 hun hall ho ⟨b0', b1', b2', b3', b4', b5', b6', b7', x22, x23, x24, x25, x6, x7, rfl, rfl, hI⟩ K' hK'
            have hi : i = 0 ∨ i = 1 ∨ i = 2 ∨ i = 3 ∨ i = 4 ∨ i = 5 ∨ i = 6 ∨ i = 7 := by have hlt' : i < 8 := hlt2; omega
            rcases hi with rfl | rfl | rfl | rfl | rfl | rfl | rfl | rfl
            · skip
              obtain rfl : b0' = false := hun
              have ho' := Option.some.inj ho
              subst ho'
              go_simp
              try simp only [put_laws]
              exact hK'.out _ _ (.inr trivial) ⟨true, b1', b2', b3', b4', b5', b6', b7', _, _, _, _, _, _, rfl, rfl, ⟨hI.b, fun _ => rfl, hI.h1, hI.h2, hI.h3, hI.h4, hI.h5, hI.c6, hI.c7⟩⟩
            · skip
              obtain rfl : b1' = false := hun
              have ho' := Option.some.inj ho
              subst ho'
              go_simp
              try simp only [put_laws]
              exact hK'.out _ _ (.inr trivial) ⟨b0', true, b2', b3', b4', b5', b6', b7', _, _, _, _, _, _, rfl, rfl, ⟨hI.b, hI.h0, fun _ => rfl, hI.h2, hI.h3, hI.h4, hI.h5, hI.c6, hI.c7⟩⟩
            · skip
              obtain rfl : b2' = false := hun
              have ho' := Option.some.inj ho
              subst ho'
              have hc0 : b0' = true := hall _ (Array.mem_of_getElem? (i := 0) rfl) rfl
              have hc1 : b1' = true := hall _ (Array.mem_of_getElem? (i := 1) rfl) rfl
              obtain rfl := hI.h0 hc0
              obtain rfl := hI.h1 hc1
              go_simp
              try simp only [put_laws]
              exact hK'.out _ _ (.inr trivial) ⟨b0', b1', true, b3', b4', b5', b6', b7', _, _, _, _, _, _, rfl, rfl, ⟨hI.b, hI.h0, hI.h1, fun _ => rfl, hI.h3, hI.h4, hI.h5, hI.c6, hI.c7⟩⟩
            · skip
              obtain rfl : b3' = false := hun
              have ho' := Option.some.inj ho
              subst ho'
              refine ite_tt rfl ?_
              obtain ⟨cs', hcb, hcs⟩ := HS.out.arr
              obtain rfl := hcs.eq
              have hcv : Blk V g 57 (stV n s) := hcb.below hI.b hcb.lt
              refine opIn_ldS (.tmp 1) rfl rfl hcv hcs.1 ?_
              simp only [put_laws, List.getElem_toArray, List.getElem_cons_succ, List.getElem_cons_zero]
              exact hK'.out _ _ (.inr trivial) ⟨b0', b1', b2', true, b4', b5', b6', b7', _, _, _, _, _, _, rfl, rfl, ⟨hI.b, hI.h0, hI.h1, hI.h2, fun _ => rfl, hI.h4, hI.h5, hI.c6, hI.c7⟩⟩
            · skip
              obtain rfl : b4' = false := hun
              have ho' := Option.some.inj ho
              subst ho'
              go_simp
              try simp only [put_laws]
              exact hK'.out _ _ (.inr trivial) ⟨b0', b1', b2', b3', true, b5', b6', b7', _, _, _, _, _, _, rfl, rfl, hI.alloc4⟩
            · skip
              obtain rfl : b5' = false := hun
              have ho' := Option.some.inj ho
              subst ho'
              go_simp
              try simp only [put_laws]
              exact hK'.out _ _ (.inr trivial) ⟨b0', b1', b2', b3', b4', true, b6', b7', _, _, _, _, _, _, rfl, rfl, hI.alloc5⟩
            · skip
              obtain rfl : b6' = false := hun
              have ho' := Option.some.inj ho
              subst ho'
              have hc4 : b4' = true := hall _ (Array.mem_of_getElem? (i := 0) rfl) rfl
              have hc2 : b2' = true := hall _ (Array.mem_of_getElem? (i := 1) rfl) rfl
              obtain rfl := hI.h2 hc2
              obtain ⟨g6, hg6, rfl, hbk⟩ := hI.h4 hc4
              rw [if_neg (by simp)] at hbk
              have c0' := hbk.cell 0
              have c1' := hbk.cell 1
              have c2' := hbk.cell 2
              have f0' := hbk.frz 0
              have f1' := hbk.frz 1
              have f2' := hbk.frz 2
              have hgl := hbk.lt
              go_simp
              try simp only [put_laws]
              exact hK'.out _ _ (.inr trivial) ⟨b0', b1', b2', b3', b4', b5', true, b7', _, _, _, _, _, _, rfl, rfl, hI.store6 rfl hc4⟩
            · skip
              obtain rfl : b7' = false := hun
              have ho' := Option.some.inj ho
              subst ho'
              refine ite_tt rfl ?_
              have hc5 : b5' = true := hall _ (Array.mem_of_getElem? (i := 0) rfl) rfl
              have hc3 : b3' = true := hall _ (Array.mem_of_getElem? (i := 1) rfl) rfl
              obtain rfl := hI.h3 hc3
              obtain ⟨g7, hg7, rfl, hbk⟩ := hI.h5 hc5
              rw [if_neg (by simp)] at hbk
              refine opIn_stS (.tmp 7) (.tmp 25) rfl rfl rfl hbk rfl (stV_sv n s).1 (stV_sv n s).one ?_
              simp only [put_laws, List.getElem_toArray, List.getElem_cons_succ, List.getElem_cons_zero]
              exact hK'.out _ _ (.inr trivial) ⟨b0', b1', b2', b3', b4', b5', b6', true, _, _, _, _, _, _, rfl, rfl, hI.store7 (stV_sv n s).1 rfl hc5⟩
          rintro listed a V hr ⟨b0', b1', b2', b3', b4', b5', b6', b7', x22, x23, x24, x25, x6, x7, rfl, rfl, hI⟩
          have hall2 : b0' = true ∧ b1' = true ∧ b2' = true ∧ b3' = true ∧ b4' = true ∧ b5' = true ∧ b6' = true ∧ b7' = true := by
            clear hI
            cases b0' <;> cases b1' <;> cases b2' <;> cases b3' <;> cases b4' <;> cases b5' <;> cases b6' <;> cases b7' <;> first | exact ⟨rfl, rfl, rfl, rfl, rfl, rfl, rfl, rfl⟩ | exact absurd hr (of_decide_eq_false (by kernel_rfl))
          obtain ⟨rfl, rfl, rfl, rfl, rfl, rfl, rfl, rfl⟩ := hall2
          obtain rfl := hI.h0 rfl
          obtain rfl := hI.h1 rfl
          obtain rfl := hI.h2 rfl
          obtain rfl := hI.h3 rfl
          obtain ⟨b6, hg6, rfl, h6⟩ := hI.h4 rfl
          obtain ⟨b7, hg7, rfl, h7⟩ := hI.h5 rfl
          rw [if_pos rfl] at h6 h7
          have HBV := Lib.hid hI.b
          have H6 := Lib.hid h6
          have HS7 := Lib.hid (Sf.of h7 (stV_sv n s))
          have hb7 := h7.lt
          have hb6 := h6.lt
          have hn67 : b6 ≠ b7 := Blk.ne_type h6 h7 (by decide)
          have HG := Lib.hid (And.intro hg6 hg7)
          clear hI h6 h7 hr hg6 hg7
          have e0 := H6.out.cell 0
          have e1 := H6.out.cell 1
          have e2 := H6.out.cell 2
          have HAP := Lib.hid (apply_any n b7 s kk (q : Int) 0 V HS7.out hn4 HOK.out.wf fun b hb j => by rw [HOK.out.cn.mo b hb])
          gi_wp2_with fail
          refine ⟨trivial, (callsIn_wide.2 HAP.out).mono ?_⟩
          rintro e w1 ⟨rfl, hs1, hg1⟩
          have HB1 := Lib.hid (show Below wr.heap.size wr w1 from HBV.out.trans ⟨hg1.os, hg1.tape, hg1.output, hg1.size, fun k hk => hg1.block k (by have := HBV.out.size; omega) (fun e => by injection e with e; have := HG.out.2; omega)⟩)
          have HJ1 := Lib.hid (HAB.out _ _ _ _ HJ.out HB1.out)
          have HL1 := Lib.hid (HL.out.below' HB1.out)
          have H61 := Lib.hid (H6.out.grown hg1 (fun e => by injection e with e; exact hn67 e))
          have HEV := Lib.hid (show (M.evL n s)[kd * mx + q]? = some (kk, q) from by rw [HMX.out]; exact M.evL_at HKK.out (by rw [← HMX.out]; exact hqt))
          obtain ⟨o, ho⟩ : ∃ o, o = M.step n s kk (q : Int) 0 := ⟨_, rfl⟩
          rw [← ho] at hs1 ⊢
          have HO := Lib.hid ho
          clear ho e0 e1 e2 HAP HS7 HBV
          cases o with
          | none =>
            clear hs1 hg1
            simp only [Option.isSome_none]
            gi_wp2_with fail
            refine ⟨fun f h => (by cases h), ?_⟩
            gi_wp2_with fail
            go_roundw
            case rel => exact ⟨q + 1, by omega, by go_num, T, HT, Lib.hid (by rw [← Nat.add_assoc, M.nxtQ_no HEV.out HO.out.symm]; exact HJ1.out), HL1⟩
            case measure => simp [intOf]; omega
          | some t =>
            simp only [Option.isSome_some]
            obtain ⟨cs1, hcb1, hcs1⟩ := hs1.arr
            have hcs2 : cs1 = stV n t := hcs1.eq
            subst hcs2
            have HC1 := Lib.hid hcb1
            clear hs1 hg1 hcb1
            have hlen := M.nxtQ_at HEV.out HO.out.symm
            obtain ⟨fn, tmps, assign, body, hy, hR⟩ := HY.out T _ ((kk, q), t) w1 HJ1.out hlen
            unfold encN at hy
            dsimp only at hy
            have HRD := Lib.hid hR
            clear hR hlen
            have e0 := H61.out.cell 0
            have e1 := H61.out.cell 1
            have e2 := H61.out.cell 2
            gi_wp2_with (refine wpListIn_ldS rfl (.tmp 7) rfl rfl HC1.out (stV_sv n t).1 ?_)
            refine HRD.out.mono ?_
            rintro e w7 (⟨rfl, hj7, hk7⟩ | ⟨rfl, hj7⟩)
            · have HJ7 := Lib.hid hj7
              have HL7 := Lib.hid (show Blk w7 b0 3 #[.int .i64 2, .int .i64 5] from (hk7 b0 HT.out).trans HL1.out)
              clear hj7 hk7
              gi_wp2_with fail
              go_roundw
              case rel => exact ⟨q + 1, by omega, by go_num, T, HT, Lib.hid (by rw [← Nat.add_assoc, M.nxtQ_yes HEV.out HO.out.symm]; exact HJ7.out), HL7⟩
              case measure => simp [intOf]; omega
            · have HJ7 := Lib.hid hj7
              clear hj7
              gi_wp2_with fail
              (try simp only [Exit.inBlock, Exit.then])
              refine bodyPost_ret (results_none rfl _ _ _) rfl ?_
              exact ⟨⟨_, rfl⟩, .inr ⟨_, trivial, HJ7.out⟩⟩
        · obtain rfl : q = mx := by omega
          have g2 := HTN.out
          gi_wp2_with fail
          go_roundw
          case rel => exact ⟨kd + 1, by omega, by go_num, T, HT, Lib.hid (by rw [Nat.add_mul, Nat.one_mul]; exact HJ.out), HL⟩
          case measure => simp [intOf]; omega
    · obtain rfl : kd = 2 := by omega
      gi_wp2_with fail
      go_end0
      exact ⟨⟨_, rfl⟩, .inl ⟨_, T, by rw [HMX.out, show 2 * M.mx n s = M.mx n s + M.mx n s by omega]; exact M.nxtQ_all, HJ.out⟩⟩
end Go.Proofs.YtfnfjmjejffjiaaDoor
