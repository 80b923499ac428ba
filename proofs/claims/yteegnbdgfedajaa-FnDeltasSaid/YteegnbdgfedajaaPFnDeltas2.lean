/- What the walk of the law FnDeltas needs, part 2 of 3. No condition. -/
import Derived.Lib.AppendZeros
import Derived.Deep.RegionLaw
import Derived.Laws.BytesArg
import Derived.Test.YteegnbdgfedajaaPFnDeltas1
/- The statements' key of bytes: blocks and what stands behind the bytes. No condition. -/
namespace Go.Proofs.Yteegnbdgfedajaa
open Go.RowKit
set_option linter.unusedVariables false
set_option linter.unusedSimpArgs false

set_option maxHeartbeats 1000000 in
set_option maxRecDepth 100000 in
theorem l01Block_any (v : Value) (xs : List Int) (w : World) (S : Nat → Prop) (h : RdL tByte w S v xs) (i : Nat) (hi : 32 * i + 32 ≤ xs.length) :
    Calls Try.prog 131 #[v, .int .i64 ((32 * i : Nat) : Int)] w fun e w' => e = .returned (.agg (numsA .u8 (blockL xs i))) ∧ Ext w w' := by
  obtain ⟨A, cap, rfl, hcap, hlen, hrd, hok⟩ := h
  have hrd' : Rd w S 1 A xs.length (nums .u8 xs) := by rw [← flat_bytes]; exact hrd
  obtain ⟨g, o, rfl, hs, hc⟩ := hrd'.2 (by omega)
  have cellx : ∀ j, j < xs.length → w.cell? ⟨g, o + j, none⟩ = some (.int .u8 (gI xs j)) := fun j hj => hc j _ (nums_at _ _ _ hj)
  have CX := Lib.hid cellx
  clear hrd hrd' hok hc cellx
  have HB := Lib.hid (blockL_eq xs i)
  have hbl : (blockL xs i).length = 32 := by rw [HB.out]; simp; omega
  go_enter Try.func131, Try.ntmps131
  go_wp2_with (refine wpl_storeN (k := .u8) (xs := List.replicate 32 0) (Blk.new' (g := w.heap.size + 1) (by simp) _ _) aggB32 (by simp) rfl rfl _ _ rfl rfl rfl rfl ?_)
  go_loopw [6] (fun q wr => ∃ (k : Nat) (z : Array Value), k ≤ 32 ∧ q = .int .i64 k ∧ z.size = 32 ∧ Blk wr w.heap.size 39 z ∧ Blk wr (w.heap.size + 1) 39 (numsA .u8 ((blockL xs i).take k ++ List.replicate (32 - k) 0)) ∧ Ext w wr) (fun q _ => 32 - (intOf q).toNat)
  case atStart => exact ⟨0, _, by omega, rfl, rfl, ((Blk.new w _ _).alloc _).row_far (by omega) _, by rw [List.take_zero, List.nil_append, Nat.sub_zero]; exact (Blk.new' (by simp) _ _).setRow _, ((ext_alloc _ _).alloc _).setRow (by omega) _⟩
  case round =>
    obtain ⟨k, z, hk, rfl, hz, hb1, hb2, hx⟩ := hrel
    have HX := Lib.hid hx
    have HB1 := Lib.hid hb1
    have HB2 := Lib.hid hb2
    clear hx hb1 hb2
    by_cases hlt : k < 32
    · have hc := HB2.out.num k (by simp; omega)
      have hf := HB2.out.free k
      have hd := HX.out.cell (CX.out (32 * i + k) (by omega))
      have e1 : IntKind.i64.wrap (32 * (i : Int) + k) = ((32 * i + k : Nat) : Int) := by rw [IntWalk.i64_in _ (by omega)]; omega
      have e2 : ((32 * i + k : Nat) : Int) < (xs.length : Int) := by omega
      have hnew : ((blockL xs i).take k ++ List.replicate (32 - k) 0).set k (gI xs (32 * i + k)) = (blockL xs i).take (k + 1) ++ List.replicate (32 - (k + 1)) 0 := by
        have h1 : gI (blockL xs i) k = gI xs (32 * i + k) := by
          unfold gI
          rw [HB.out, List.getD_eq_getElem?_getD, List.getD_eq_getElem?_getD, List.getElem?_take, if_pos hlt, List.getElem?_drop]
        rw [← h1]
        exact fill_step _ 32 k hlt hbl
      have HN := Lib.hid hnew
      clear hnew
      go_wp2_with fail
      go_roundw
      case rel =>
        have h2 := HB2.out.set k (.int .u8 (gI xs (32 * i + k)))
        rw [numsA_set, HN.out] at h2
        exact ⟨k + 1, z, by omega, by go_num, hz, HB1.out.far (by simp) _, h2, HX.out.set (by simp) _⟩
      case measure => simp [intOf]; omega
    · obtain rfl : k = 32 := by omega
      have hb := HB2.out
      rw [Nat.sub_self, List.replicate_zero, List.append_nil, List.take_of_length_le (by omega)] at hb
      have HB3 := Lib.hid hb
      clear hb
      go_wp2_with (first
        | (refine wpl_loadN HB3.out aggB32 hbl rfl _ rfl rfl ?_)
        | (refine wpl_storeN HB1.out aggB32 hbl hz rfl _ _ rfl rfl rfl rfl ?_))
      refine bodyPost_ret (results_blk rfl _ rfl aggB32 hbl (HB1.out.setRow _)) rfl ?_
      exact ⟨rfl, HX.out.setRow (Nat.le_refl _) _⟩

end Go.Proofs.Yteegnbdgfedajaa
/- The statements' key of bytes: what stands behind the bytes. No condition. -/
namespace Go.Proofs.Yteegnbdgfedajaa
open Go.RowKit
set_option linter.unusedVariables false
set_option linter.unusedSimpArgs false

theorem okOne {x : Int} (h : 0 ≤ x ∧ x ≤ 255) : ∀ y ∈ [x], tByte.ok y := by
  intro y hy
  obtain rfl := List.mem_singleton.1 hy
  exact h
theorem rd_byte (w : World) (x : Int) (h : 0 ≤ x ∧ x ≤ 255) (t : TypeId) : Rd (w.alloc (.cells #[.int .u8 x] t)) (fun _ => True) tByte.sz (some ⟨w.heap.size, 0, none⟩) [x].length ([x].flatMap tByte.enc) := rd_one (T := tByte) w x h t
theorem Own.len {α : Type} {T : Ty α} {e : TypeId} {w : World} {base : Nat} {A : Option Addr} {n c : Nat} {xs : List α} (h : Own T e w base (.slice A n c) xs) : n = xs.length := by
  obtain ⟨A', c', he⟩ := h.shape
  injection he
set_option maxHeartbeats 1000000 in
set_option maxRecDepth 100000 in
theorem l01Padded_any (v : Value) (xs : List Int) (w : World) (S : Nat → Prop) (h : RdL tByte w S v xs) (hl : xs.length ≤ 70368744177664) (len : Int) (h0 : 0 ≤ len) (h1 : len ≤ 9223372036854775807) :
    Calls Try.prog 129 #[v, .int .i64 len] w fun e w' => ∃ v', e = .returned v' ∧ Own tByte 5 w' w.heap.size v' (xs ++ padL xs.length len) ∧ Ext w w' := by
  obtain ⟨A, cap, rfl, hcap, hlen, hrd, hok⟩ := h
  have Hrd := Lib.hid hrd
  have Hok := Lib.hid hok
  clear hrd hok
  go_enter Try.func129, Try.ntmps129
  go_wp2_with (first
    | (at_builtin; refine wpl_append rowByte rfl _ _ rfl (v := .slice (some ⟨w.heap.size, 0, none⟩) 0 0) rfl (Own.empty tByte _ 5 w.heap.size (Nat.le_refl _)) _ _ rfl rfl (Hrd.out.ext (by decide) (ext_alloc _ _)) Hok.out (by simp; omega) (by simp) ?_; intro v1 w1 ho1 hg1 hat1; rw [List.nil_append] at ho1; have HX1 := Lib.hid ((ext_alloc w _).grown hg1 (fun k hk => Nat.le_of_eq (Option.some.inj hk))); have HO1 := Lib.hid ho1; obtain ⟨B1, bn1, bc1, rfl⟩ := ho1.shape3; clear ho1 hg1 hat1)
    | (at_builtin; refine wpl_append rowByte rfl _ _ rfl (v := .slice B1 bn1 bc1) rfl (HO1.out.alloc _) _ _ rfl (A := some ⟨w1.heap.size, 0, none⟩) (ys := [128]) rfl (rd_byte w1 128 (by decide) _) (okOne (by decide)) (by simp; omega) (HX1.out.alloc _).size ?_; intro v2 w2 ho1 hg1 hat1; have HX2 := Lib.hid ((HO1.out.alloc _).ext_app (HX1.out.alloc _) hg1); have HO2 := Lib.hid ho1; clear ho1 hg1 hat1 HX1 HO1))
  go_loopw [5] (fun o wr => ∃ z : Nat, z ≤ padZ xs.length ∧ Own tByte 5 wr w.heap.size o (xs ++ [128] ++ List.replicate z 0) ∧ Ext w wr) (fun o _ => xs.length + 40 - lenV o)
  case atStart => exact ⟨0, by omega, by rw [List.replicate_zero, List.append_nil]; exact HO2.out, HX2.out⟩
  case round =>
    clear HO2 HX2
    obtain ⟨z, hz, ho, hx⟩ := hrel
    have HX := Lib.hid hx
    have HO := Lib.hid ho
    obtain ⟨B, bn, bc, rfl⟩ := ho.shape3
    have hbn := ho.len
    simp only [List.length_append, List.length_cons, List.length_nil, List.length_replicate] at hbn
    clear hx ho
    have hp := padZ_eq xs.length
    have hbl : (bn : Int) ≤ 9223372036854775807 := by omega
    by_cases hlt : z < padZ xs.length
    · have hm : ¬ ((bn : Int) % 32 = 24) := by omega
      have hz31 : z ≤ 31 := by omega
      have HP := Lib.hid hp
      have HN := Lib.hid hbn
      clear hp hbn
      go_wp2_with (at_builtin; refine wpl_append rowByte rfl _ _ rfl (v := .slice B bn bc) rfl (HO.out.alloc _) _ _ rfl (A := some ⟨wr.heap.size, 0, none⟩) (ys := [0]) rfl (rd_byte wr (0) (by decide) _) (okOne (by decide)) (by simp; omega) (HX.out.alloc _).size ?_; intro v9 w9 ho1 hg1 hat1; have HX9 := Lib.hid ((HO.out.alloc _).ext_app (HX.out.alloc _) hg1); have HO9 := Lib.hid ho1; clear ho1 hg1 hat1)
      go_roundw
      case rel => exact ⟨z + 1, by omega, by rw [List.replicate_succ', ← List.append_assoc]; exact HO9.out, HX9.out⟩
      case measure =>
        have h1 := HO9.out.shape
        obtain ⟨_, _, rfl⟩ := h1
        have := HN.out
        have := HP.out
        simp [lenV]
        omega
    · have hm : (bn : Int) % 32 = 24 := by omega
      obtain rfl : z = padZ xs.length := by omega
      have HP := Lib.hid hp
      have HN := Lib.hid hbn
      clear hp hbn
      go_wp2_with fail
      clear hm
      go_loopw [1, 5, 6] (fun l o i wq => ∃ k : Nat, k ≤ 8 ∧ i = .int .i64 k ∧ l = .int .i64 (len / 256 ^ k) ∧ Own tByte 5 wq w.heap.size o (xs ++ [128] ++ List.replicate (padZ xs.length) 0 ++ bytesLE len k) ∧ Ext w wq) (fun _ _ i _ => 8 - (intOf i).toNat)
      case atStart => exact ⟨0, by omega, rfl, by simp, by rw [bytesLE_zero, List.append_nil]; exact HO.out, HX.out⟩
      case round =>
        clear HO HX
        obtain ⟨k, hk, rfl, rfl, ho, hx⟩ := hrel
        have HX := Lib.hid hx
        have HO := Lib.hid ho
        obtain ⟨C, cn, cc, rfl⟩ := ho.shape3
        clear hx ho
        by_cases hk8 : k < 8
        · have hd0 : 0 ≤ len / 256 ^ k := Int.ediv_nonneg h0 (Int.pow_nonneg (by decide))
          have hd1 : len / 256 ^ k ≤ len := Int.ediv_le_self _ h0
          have hs1 : len / 256 ^ (k + 1) = len / 256 ^ k / 256 := by rw [Int.pow_succ, Int.ediv_ediv_of_nonneg (Int.pow_nonneg (by decide))]
          have hs2 := bytesLE_succ len k
          generalize len / 256 ^ k = d at *
          have HS1 := Lib.hid hs1
          have HS2 := Lib.hid hs2
          have hpz : padZ xs.length ≤ 31 := by have := padZ_eq xs.length; omega
          clear hs1 hs2
          go_wp2_with (at_builtin; refine wpl_append rowByte rfl _ _ rfl (v := .slice C cn cc) rfl (HO.out.alloc _) _ _ rfl (A := some ⟨wr.heap.size, 0, none⟩) (ys := [d % 256]) rfl (rd_byte wr (d % 256) (by omega) _) (okOne (by omega)) (by simp [bytesLE_length]; omega) (HX.out.alloc _).size ?_; intro v9 w9 ho1 hg1 hat1; have HX9 := Lib.hid ((HO.out.alloc _).ext_app (HX.out.alloc _) hg1); have HO9 := Lib.hid ho1; clear ho1 hg1 hat1)
          go_roundw
          case rel => exact ⟨k + 1, by omega, by go_num, by rw [HS1.out], by rw [HS2.out, ← List.append_assoc]; exact HO9.out, HX9.out⟩
          case measure => simp [intOf]; omega
        · obtain rfl : k = 8 := by omega
          go_wp2_with fail
          go_ret
          have ho := HO.out
          rw [List.append_assoc xs, List.append_assoc xs, ← padL_eq] at ho
          exact ⟨_, rfl, ho, HX.out⟩

end Go.Proofs.Yteegnbdgfedajaa
/- The program of a delta: the reference. No condition. -/
namespace Go.Proofs.Yteegnbdgfedajaa
open Go.RowKit
set_option linter.unusedVariables false
set_option linter.unusedSimpArgs false

theorem Own.rd_at {α : Type} {T : Ty α} {e : TypeId} {w : World} {base : Nat} {v : Value} {xs : List α} (h : Own T e w base v xs) : RdL T w (fun g => some g = v.ownBlock ∧ g < w.heap.size) v xs := by
  obtain ⟨⟨hl, hx⟩, h2, h3⟩ := h
  rcases hx with ⟨rfl, h0⟩ | ⟨g, cap, cur, rfl, hb, hg, hc, hm, hs, ht⟩
  · obtain rfl : xs = [] := List.eq_nil_of_length_eq_zero h0
    exact ⟨none, 0, rfl, Nat.le_refl _, by simp, Rd.nil _ _ _ _, h3⟩
  · refine ⟨_, cap, rfl, hc, h2, ⟨hl, fun hn => ⟨g, 0, rfl, ⟨rfl, (Array.getElem?_eq_some_iff.1 hg).1⟩, fun j u hu => ?_⟩⟩, h3⟩
    rw [Nat.zero_add, cell_of_row w g j cur e (0, 0) hg]
    rw [← ht, List.getElem?_take] at hu
    split at hu
    · simpa using hu
    · cases hu
/-- what is left behind the first j -/
theorem rdl_cut {w : World} {S : Nat → Prop} {g o cap n : Nat} {B : List Int} (h : Rd w S 1 (some ⟨g, o, none⟩) n (nums .u8 B)) (hok : B8 B) (hc : B.length ≤ cap) (hl : B.length ≤ 140737488355328) (j : Nat) (hj : j ≤ B.length) : RdL tByte w S (.slice (some ⟨g, o + j, none⟩) (B.length - j) (cap - j)) (B.drop j) := by
  have h1 := h.sub8 j (B.length - j) (by omega)
  have e : (B.drop j).take (B.length - j) = B.drop j := List.take_of_length_le (by simp)
  rw [e] at h1
  refine ⟨_, cap - j, by rw [List.length_drop], by rw [List.length_drop]; omega, by rw [List.length_drop]; omega, h1, fun x hx => hok x (List.mem_of_mem_drop hx)⟩
theorem rd_four (w : World) (x y z u : Int) (t : TypeId) : Rd (w.alloc (.cells #[.int .u8 x, .int .u8 y, .int .u8 z, .int .u8 u] t)) (fun _ => True) tByte.sz (some ⟨w.heap.size, 0, none⟩) [x, y, z, u].length ([x, y, z, u].flatMap tByte.enc) := by
  refine ⟨rfl, fun _ => ⟨_, 0, rfl, trivial, fun j q hu => ?_⟩⟩
  rw [Nat.zero_add, (Blk.new w t _).cell]
  have e : ([x, y, z, u].flatMap tByte.enc) = [.int .u8 x, .int .u8 y, .int .u8 z, .int .u8 u] := rfl
  rw [e] at hu
  simpa using hu
theorem rd_four' {w : World} {g : Nat} (hg : g = w.heap.size) (x y z u : Int) (t : TypeId) : Rd (w.alloc (.cells #[.int .u8 x, .int .u8 y, .int .u8 z, .int .u8 u] t)) (fun _ => True) tByte.sz (some ⟨g, 0, none⟩) [x, y, z, u].length ([x, y, z, u].flatMap tByte.enc) := by
  subst hg
  exact rd_four w x y z u t
theorem ok4 {x y z u : Int} (hx : 0 ≤ x ∧ x ≤ 255) (hy : 0 ≤ y ∧ y ≤ 255) (hz : 0 ≤ z ∧ z ≤ 255) (hu : 0 ≤ u ∧ u ≤ 255) : ∀ q ∈ [x, y, z, u], tByte.ok q := by
  intro q hq
  simp at hq
  rcases hq with rfl | rfl | rfl | rfl <;> assumption
set_option maxHeartbeats 4000000 in
set_option maxRecDepth 100000 in
theorem l06Delta_any (v u : Value) (B D : List Int) (w : World) (S S' : Nat → Prop) (h : RdL tByte w S v B) (h' : RdL tByte w S' u D) (hBl : B.length ≤ 1024) (hDl : D.length ≤ 1024) :
    Calls Try.prog 43 #[v, u] w fun e w' => ∃ v', e = .returned (.tuple #[v', .bool (decide (((dltL B D).length : Int) ≤ 1024))]) ∧ Own tByte 5 w' w.heap.size v' (dltL B D) ∧ Ext w w' := by
  obtain ⟨A, cap, rfl, hcap, hlen, hrd, hok⟩ := h
  obtain ⟨A', cap', rfl, hcap', hlen', hrd', hok'⟩ := h'
  have Hrd := Lib.hid (show Rd w S 1 A B.length (nums .u8 B) by rw [← flat_bytes]; exact hrd)
  have Hrd' := Lib.hid (show Rd w S' 1 A' D.length (nums .u8 D) by rw [← flat_bytes]; exact hrd')
  have Hok := Lib.hid (show B8 B from hok)
  have Hok' := Lib.hid (show B8 D from hok')
  clear hrd hrd' hok hok'
  go_enter Try.func43, Try.ntmps43
  go_wp2_with fail
  go_loopw [6, 7, 8] (fun o hv i wr => ∃ (k : Nat) (O H : List Int) (f : Nat), k ≤ D.length ∧ i = .int .i64 k ∧ dltL B D = dlt B f (D.drop k) H O ∧ D.length - k ≤ f ∧ O.length + 3 * H.length ≤ 4 * k ∧ H.length ≤ k ∧ B8 H ∧ Own tByte 5 wr w.heap.size o O ∧ Own tByte 5 wr w.heap.size hv H ∧ o.ownBlock ≠ hv.ownBlock ∧ Ext w wr)
    (fun _ _ i _ => D.length - (intOf i).toNat)
  case atStart => exact ⟨0, [], [], D.length, by omega, rfl, rfl, by omega, by decide, by decide, fun x hx => by simp at hx, (Own.empty _ _ _ _ (Nat.le_refl _)).alloc _, Own.of_blk8 (g := w.heap.size + 1) (xs := []) (Blk.new' (g := w.heap.size + 1) (w := w.alloc _) (by simp) 5 #[]) (by omega) (by simp) (fun x hx => by simp at hx), by simp [Value.ownBlock], (ext_alloc _ _).alloc _⟩
  case round =>
    obtain ⟨k, O, H, f, hk, rfl, hF, hf, hol, hHk, hB8, hO, hH, hne, hX⟩ := hrel
    obtain ⟨wo, hwo⟩ : ∃ wo, wo = wr := ⟨_, rfl⟩
    subst hwo
    obtain ⟨O1, on, oc, rfl⟩ := hO.shape3
    obtain ⟨H1, hn, hc, rfl⟩ := hH.shape3
    have HF := Lib.hid hF
    have HO := Lib.hid hO
    have HH := Lib.hid hH
    have HN := Lib.hid hne
    have HX := Lib.hid hX
    have HB8 := Lib.hid hB8
    clear hF hO hH hne hX hB8
    by_cases hlt : k < D.length
    rotate_left
    · obtain rfl : k = D.length := by omega
      have hend := HF.out
      rw [List.drop_length, dlt_end] at hend
      have HE := Lib.hid hend
      have hpl := l06Plain_any _ _ O H wo w.heap.size _ HO.out HH.out.rd_at (fun g hg => ⟨fun e => HN.out (e.symm.trans hg.1 |> fun q => q), hg.2⟩) HX.out.size (by omega) (by omega)
      have HP := Lib.hid hpl
      clear hend hpl
      go_wp2_with fail
      refine HP.out.mono ?_
      rintro e w1 ⟨v1, rfl, ho1, hg1⟩
      rw [← HE.out] at ho1
      obtain ⟨C1, hCl⟩ := ho1.shape
      obtain ⟨cc1, rfl⟩ := hCl
      have HO1 := Lib.hid ho1
      have HX1 := Lib.hid (HX.out.grown hg1.g (fun q hq => (HO.out.base_le q hq).1))
      clear ho1 hg1
      go_wp2_with fail
      go_ret2
      exact ⟨_, rfl, HO1.out, HX1.out⟩
    obtain ⟨f, rfl⟩ : ∃ f', f = f' + 1 := ⟨f - 1, by omega⟩
    obtain ⟨g', o', rfl, hs', hcd⟩ := (Hrd'.out).byte k hlt
    have hcapk : ¬ cap' = k := by omega
    have hi1 : (0 : Int) ≤ (k : Int) := by omega
    have hi2 : (k : Int) ≤ (cap' : Int) := by omega
    have hi3 : (k : Int) ≤ (D.length : Int) := by omega
    go_wp2_with fail
    go_loopw [9, 10, 11] (fun b p i w2 => ∃ j : Nat, j ≤ B.length ∧ i = .int .i64 j ∧ b = .int .i64 ((bestK B (D.drop k) j).2 : Nat) ∧ p = .int .i64 ((bestK B (D.drop k) j).1 : Nat) ∧ Drawn wo w2) (fun _ _ i _ => B.length - (intOf i).toNat)
    case atStart => exact ⟨0, by omega, rfl, rfl, rfl, Drawn.refl _⟩
    case round =>
      obtain ⟨j, hj, rfl, rfl, rfl, hD⟩ := hrel
      have HD := Lib.hid hD
      clear hD
      by_cases hltj : j < B.length
      · obtain ⟨g, o, hA, hs, hc0⟩ := (Hrd.out).byte j hltj
        subst hA
        clear hc0
        have hcapj : ¬ cap = j := by omega
        have hj1 : (0 : Int) ≤ (j : Int) := by omega
        have hj2 : (j : Int) ≤ (cap : Int) := by omega
        have hj3 : (j : Int) ≤ (B.length : Int) := by omega
        have HBK := Lib.hid (show bestK B (D.drop k) (j + 1) = if (bestK B (D.drop k) j).2 < mat 255 (B.drop j) (D.drop k) then (j, mat 255 (B.drop j) (D.drop k)) else bestK B (D.drop k) j from rfl)
        have hcall := fun n => l06Match_any _ _ (B.drop j) (D.drop k) (wr.drewN n) S S' ((rdl_cut Hrd.out Hok.out hcap hlen j hj).ext (by decide) ((HX.out.trans HD.out.ext).drewN n)) ((rdl_cut Hrd'.out Hok'.out hcap' hlen' k hk).ext (by decide) ((HX.out.trans HD.out.ext).drewN n))
        have hmm := (mat_le 255 (B.drop j) (D.drop k)).1
        generalize mat 255 (B.drop j) (D.drop k) = m at hcall HBK hmm
        have HC := Lib.hid hcall
        clear hcall
        by_cases hm : (bestK B (D.drop k) j).2 < m
        · have HB1 := Lib.hid (show (bestK B (D.drop k) (j + 1)) = (j, m) by rw [HBK.out, if_pos hm])
          generalize bestK B (D.drop k) j = q at hm HBK ⊢
          obtain ⟨q1, q2⟩ := q
          dsimp only at hm ⊢
          go_wp2_with fail
          go_quiet ((go_at_call 77; exact Calls.quiet_of (HC.out _)))
          go_wp2_with fail
          go_roundw
          case rel => exact ⟨j + 1, by omega, by go_num, by rw [HB1.out], by rw [HB1.out], HD.out.drewN _⟩
          case measure => simp [intOf]; omega
        · have HB1 := Lib.hid (show (bestK B (D.drop k) (j + 1)) = bestK B (D.drop k) j by rw [HBK.out, if_neg hm])
          generalize bestK B (D.drop k) j = q at hm HBK HB1 ⊢
          obtain ⟨q1, q2⟩ := q
          dsimp only at hm ⊢
          go_wp2_with fail
          go_quiet ((go_at_call 77; exact Calls.quiet_of (HC.out _)))
          go_wp2_with fail
          go_roundw
          case rel => exact ⟨j + 1, by omega, by go_num, by rw [HB1.out], by rw [HB1.out], HD.out.drewN _⟩
          case measure => simp [intOf]; omega
      · obtain rfl : j = B.length := by omega
        have hbo := bestK_ok B (D.drop k) B.length (Nat.le_refl _)
        have HHD := Lib.hid (fun hb => dlt_hold B f (D.drop k) H O (by simp; omega) hb)
        have HCP := Lib.hid (fun hb => dlt_copy B f (D.drop k) H O (by simp; omega) hb)
        have hml := fun i => mat_le 255 (B.drop i) (D.drop k)
        generalize bestK B (D.drop k) B.length = q at hbo HHD HCP ⊢
        obtain ⟨p, m⟩ := q
        dsimp only at hbo HHD HCP ⊢
        have hpm : p ≤ B.length ∧ m ≤ 255 ∧ m ≤ D.length - k := by
          have h1 := hml p
          rw [List.length_drop, List.length_drop] at h1
          rcases hbo with h | h
          · omega
          · omega
        clear hbo hml
        have HX1 := Lib.hid (HX.out.trans HD.out.ext)
        have HO1 := Lib.hid (HO.out.ext HD.out.ext)
        have HH1 := Lib.hid (HH.out.ext HD.out.ext)
        have hcd1 := HX1.out.cell hcd
        have hd255 := B8.get Hok'.out k
        clear hcd
        by_cases h8 : m < 8
        · have HST := Lib.hid (HHD.out h8)
          have h8I : (m : Int) < 8 := by omega
          clear HHD HCP
          go_wp2_with (at_builtin; refine wpl_append rowByte rfl _ _ rfl (v := .slice H1 hn hc) rfl (HH1.out.alloc _) _ _ rfl (A := some ⟨wr.heap.size, 0, none⟩) (ys := [gI D k]) rfl (rd_byte wr (gI D k) (by omega) _) (okOne (by omega)) (by simp; omega) (HX1.out.alloc _).size ?_; intro v9 w9 ho9 hg9 hat9; have HX9 := Lib.hid ((HH1.out.alloc _).ext_app (HX1.out.alloc _) hg9); have HG9 := Lib.hid ((Go1.ext (v := .slice H1 hn hc) (ext_alloc _ _) rfl).trans (Go1.app hg9 hat9)); have HH9 := Lib.hid ho9; obtain ⟨H2, hn2, hc2, rfl⟩ := ho9.shape3; clear ho9 hg9 hat9)
          go_roundw
          case rel => exact ⟨k + 1, O, H ++ [gI D k], f, by omega, by go_num, by rw [HF.out, HST.out, List.drop_drop, gI_drop]; rfl, by omega, by simp; omega, by simp; omega, fun x hx => by
            rcases List.mem_append.1 hx with hx | hx
            · exact HB8.out x hx
            · simp at hx; subst hx; exact hd255, HO1.out.kept HG9.out.g (.inr HN.out), HH9.out, by
              rcases HG9.out.at_ with e | ⟨q, e, hq⟩
              · rw [e]; exact HN.out
              · rw [e]; intro e2; have := (HO1.out.base_le _ e2).2; omega, HX9.out⟩
          case measure => simp [intOf]; omega
        · have HST := Lib.hid (HCP.out h8)
          have h8I : ¬ (m : Int) < 8 := by omega
          have hpl := l06Plain_any _ _ O H wr w.heap.size _ HO1.out HH1.out.rd_at (fun g hg => ⟨fun e => HN.out (e.symm.trans hg.1), hg.2⟩) HX1.out.size (by omega) (by omega)
          have HP := Lib.hid hpl
          clear HHD HCP hpl
          go_wp2_with fail
          refine HP.out.mono ?_
          rintro e w1 ⟨v1, rfl, ho1, hg1⟩
          obtain ⟨C1, cn1, cc1, rfl⟩ := ho1.shape3
          have HO2 := Lib.hid ho1
          have HX2 := Lib.hid (HX1.out.grown hg1.g (fun q hq => (HO1.out.base_le q hq).1))
          clear ho1 hg1 HP
          have e1 : ((p % 256 : Nat) : Int) = (p : Int) % 256 := by omega
          have e2 : ((p / 256 : Nat) : Int) = (p : Int) / 256 := by omega
          have HST2 := Lib.hid (show dlt B (f + 1) (D.drop k) H O = dlt B f ((D.drop k).drop m) [] (O ++ chk H.length H ++ [1, (p : Int) % 256, (p : Int) / 256, (m : Int)]) by rw [HST.out, e1, e2])
          have HCL := Lib.hid (chk_len H.length H)
          have hcl := HCL.out
          have HNE := Lib.hid (show ∀ q, (Value.slice C1 cn1 cc1).ownBlock = some q → q < w1.heap.size from fun q hq => (HO2.out.base_le q hq).2)
          clear e1 e2 HST
          go_wp2_with (at_builtin; refine wpl_append rowByte rfl _ _ rfl (v := .slice C1 cn1 cc1) rfl ((HO2.out.alloc _).alloc _) _ _ rfl (A := some ⟨w1.heap.size + 1, 0, none⟩) (ys := [1, (p : Int) % 256, (p : Int) / 256, (m : Int)]) rfl (rd_four' (by simp) 1 _ _ _ _) (ok4 (by omega) (by omega) (by omega) (by omega)) (by simp; omega) ((HX2.out.alloc _).alloc _).size ?_; intro v9 w9 ho9 hg9 hat9; have HX9 := Lib.hid (((HO2.out.alloc _).alloc _).ext_app ((HX2.out.alloc _).alloc _) hg9); have HH9 := Lib.hid (((Own.empty tByte w1 5 w.heap.size HX2.out.size).alloc _).kept hg9 (.inr fun e => absurd (HNE.out _ e.symm) (Nat.lt_irrefl _))); have HG9 := Lib.hid (Go1.app hg9 hat9); have HO9 := Lib.hid ho9; obtain ⟨O2, on2, oc2, rfl⟩ := ho9.shape3; clear ho9 hg9 hat9)
          go_roundw
          case rel => exact ⟨k + m, _, [], f, by omega, by go_num, by rw [HF.out, HST2.out, List.drop_drop], by omega, by simp; omega, by simp, fun x hx => by simp at hx, HO9.out, HH9.out, by
            rcases HG9.out.at_ with e | ⟨q, e, hq⟩
            · rw [e]; exact fun e2 => absurd (HNE.out _ e2) (Nat.lt_irrefl _)
            · rw [e]; intro e2; have h3 : q = w1.heap.size := Option.some.inj e2; simp at hq; omega, HX9.out⟩
          case measure => simp [intOf]; omega
set_option maxHeartbeats 1000000 in
set_option maxRecDepth 100000 in
theorem specDeltaOf_any (v u : Value) (B D : List Int) (w : World) (S S' : Nat → Prop) (h : RdL tByte w S v B) (h' : RdL tByte w S' u D) :
    Calls Try.prog 9 #[v, u] w fun e w' => ∃ v', e = .returned (.tuple #[v', .int .i64 (deltaR B D).2]) ∧ Own tByte 5 w' w.heap.size v' (deltaR B D).1 ∧ Ext w w' := by
  have H := Lib.hid h
  have H' := Lib.hid h'
  obtain ⟨A, cap, rfl, hcap, hlen, _⟩ := h
  obtain ⟨A', cap', rfl, hcap', hlen', _⟩ := h'
  unfold deltaR
  by_cases h1 : 1024 < B.length
  · rw [if_pos (.inl h1)]
    have h1' : (1024 : Int) < (B.length : Int) := by omega
    go_enter Try.func9, Try.ntmps9
    go_wp2_with fail
    go_ret2
    exact ⟨_, rfl, Own.empty _ _ _ _ (Nat.le_refl _), ext_alloc _ _⟩
  by_cases h2 : 1024 < D.length
  · rw [if_pos (.inr h2)]
    have h2' : (1024 : Int) < (D.length : Int) := by omega
    have h1' : ¬ (1024 : Int) < (B.length : Int) := by omega
    go_enter Try.func9, Try.ntmps9
    go_wp2_with fail
    go_ret2
    exact ⟨_, rfl, Own.empty _ _ _ _ (Nat.le_refl _), ext_alloc _ _⟩
  rw [if_neg (by omega)]
  have h2' : ¬ (1024 : Int) < (D.length : Int) := by omega
  have h1' : ¬ (1024 : Int) < (B.length : Int) := by omega
  have hc := l06Delta_any _ _ B D w S S' H.out H'.out (by omega) (by omega)
  generalize dltL B D = R at hc ⊢
  by_cases h3 : 1024 < R.length
  · rw [if_pos h3]
    rw [decide_eq_false (by omega)] at hc
    have HC := Lib.hid hc
    clear hc
    go_enter Try.func9, Try.ntmps9
    go_wp2_with fail
    refine HC.out.mono ?_
    rintro e w1 ⟨v1, rfl, ho, hx⟩
    obtain ⟨A1, n1, c1, rfl⟩ := ho.shape3
    have HX := Lib.hid hx
    clear ho hx
    go_wp2_with fail
    go_ret2
    exact ⟨_, rfl, Own.empty _ _ _ _ HX.out.size, HX.out.alloc _⟩
  · rw [if_neg h3]
    rw [decide_eq_true (by omega)] at hc
    have HC := Lib.hid hc
    clear hc
    go_enter Try.func9, Try.ntmps9
    go_wp2_with fail
    refine HC.out.mono ?_
    rintro e w1 ⟨v1, rfl, ho, hx⟩
    obtain ⟨A1, n1, c1, rfl⟩ := ho.shape3
    have HO := Lib.hid ho
    have HX := Lib.hid hx
    clear ho hx
    go_wp2_with fail
    go_ret2
    exact ⟨_, rfl, HO.out, HX.out⟩
end Go.Proofs.Yteegnbdgfedajaa
/- The program of a delta: the program's state, and the plain bytes. No condition. -/
namespace Go.Proofs.Yteegnbdgfedajaa
open Go.RowKit
set_option linter.unusedVariables false
set_option linter.unusedSimpArgs false

/-- the two variables gp (what is held back) and go (what has been told): what they hold (vP, vO), and the rows that are at hand (vR, vQ) -/
structure DSt (w0 w : World) (gp go : Nat) (vP vR vO vQ : Value) (H O : List Int) : Prop where
  ext : Ext w0 w
  bp : Blk w gp 22 #[vP]
  bo : Blk w go 22 #[vO]
  p : OwnT w w0.heap.size vR H
  o : Own tByte 5 w w0.heap.size vQ O
  ne : vR.ownBlock ≠ vQ.ownBlock
  lp : w0.heap.size ≤ gp
  lo : w0.heap.size ≤ go
  np : gp ≠ go
section
variable {w0 w w' : World} {gp go : Nat} {vP vR vO vQ v' : Value} {H O H' O' : List Int}
theorem Own.row8 {w : World} {base : Nat} {v : Value} {xs : List Int} (h : Own tByte 5 w base v xs) {k : Nat} (hk : v.ownBlock = some k) : ∃ cur, Blk w k 5 cur := by
  obtain ⟨⟨hl, hx⟩, _⟩ := h
  rcases hx with ⟨rfl, _⟩ | ⟨g, cap, cur, rfl, hb, hg, _⟩
  · cases hk
  · injection hk with hk
    subst hk
    exact ⟨cur, hg⟩
theorem blk_two {w : World} {g : Nat} {c c' : Array Value} (h : Blk w g 22 c) (k : Blk w g 5 c') : False := by
  unfold Blk at h k
  rw [h] at k
  injection k with k
  injection k with _ k
  revert k
  decide
theorem DSt.lt_p (h : DSt w0 w gp go vP vR vO vQ H O) : gp < w.heap.size := h.bp.lt
theorem DSt.qgp (h : DSt w0 w gp go vP vR vO vQ H O) : some gp ≠ vQ.ownBlock := fun e => by
  obtain ⟨c, hc⟩ := h.o.row8 e.symm
  exact blk_two h.bp hc
theorem DSt.qgo (h : DSt w0 w gp go vP vR vO vQ H O) : some go ≠ vQ.ownBlock := fun e => by
  obtain ⟨c, hc⟩ := h.o.row8 e.symm
  exact blk_two h.bo hc
theorem DSt.rgp (h : DSt w0 w gp go vP vR vO vQ H O) : some gp ≠ vR.ownBlock := fun e => by
  obtain ⟨g, hg, _, _, c, hc⟩ := h.p.block
  rw [hg] at e
  injection e with e
  subst e
  exact blk_two h.bp hc
theorem DSt.rgo (h : DSt w0 w gp go vP vR vO vQ H O) : some go ≠ vR.ownBlock := fun e => by
  obtain ⟨g, hg, _, _, c, hc⟩ := h.p.block
  rw [hg] at e
  injection e with e
  subst e
  exact blk_two h.bo hc
theorem DSt.on (h : DSt w0 w gp go vP vR vO vQ H O) (hx : Ext w w') : DSt w0 w' gp go vP vR vO vQ H O := ⟨h.ext.trans hx, h.bp.ext hx, h.bo.ext hx, h.p.ext hx, h.o.ext hx, h.ne, h.lp, h.lo, h.np⟩
/-- behind an append to what has been told -/
theorem DSt.app (h : DSt w0 w gp go vP vR vO vQ H O) (ho : Own tByte 5 w' w0.heap.size v' O') (hg : Go1 w w' vQ v') : DSt w0 w' gp go vP vR vO v' H O' := by
  refine ⟨h.ext.grown hg.g (fun k e => (h.o.base_le k e).1), h.bp.grown hg.g h.qgp, h.bo.grown hg.g h.qgo, h.p.grown hg.g h.ne, ho, ?_, h.lp, h.lo, h.np⟩
  rcases hg.at_ with e | ⟨k, e, hk⟩
  · rw [e]; exact h.ne
  · rw [e]
    obtain ⟨g, e2, _, hlt, _⟩ := h.p.block
    rw [e2]
    intro e3
    injection e3 with e3
    omega
/-- behind an append to what is held back -/
theorem DSt.hold (h : DSt w0 w gp go vP vR vO vQ H O) (ho : OwnT w' w0.heap.size v' H') (hg : Go1 w w' vR v') : DSt w0 w' gp go vP v' vO vQ H' O := by
  have hb : ∀ k, vR.ownBlock = some k → w0.heap.size ≤ k := fun k e => by
    obtain ⟨g, e2, h1, _⟩ := h.p.block
    rw [e2] at e; injection e with e; omega
  refine ⟨h.ext.grown hg.g hb, h.bp.grown hg.g h.rgp, h.bo.grown hg.g h.rgo, ho, h.o.kept hg.g ?_, ?_, h.lp, h.lo, h.np⟩
  · cases hq : vQ.ownBlock with
    | none => exact .inl rfl
    | some k => exact .inr (fun e => h.ne (by rw [hq, ← e]))
  · rcases hg.at_ with e | ⟨k, e, hk⟩
    · rw [e]; exact h.ne
    · rw [e]
      intro e3
      have := (h.o.base_le k e3.symm).2
      omega
theorem DSt.cutP (h : DSt w0 w gp go vP vR vO vQ H O) (ho : OwnT w w0.heap.size v' H') (e : v'.ownBlock = vR.ownBlock) : DSt w0 w gp go vP v' vO vQ H' O := ⟨h.ext, h.bp, h.bo, ho, h.o, by rw [e]; exact h.ne, h.lp, h.lo, h.np⟩
theorem OwnT.far {w : World} {base : Nat} {v : Value} {xs : List Int} (h : OwnT w base v xs) {p : Addr} (hp : some p.block ≠ v.ownBlock) (u : Value) : OwnT (w.setCell p u) base v xs := by
  obtain ⟨g, o, cap, cur, rfl, h1, h2, h3⟩ := h
  exact ⟨g, o, cap, cur, rfl, h1, h2.far (fun e => hp (by rw [← e]; rfl)) u, h3⟩
theorem Own.far8 {w : World} {base : Nat} {v : Value} {xs : List Int} (h : Own tByte 5 w base v xs) {g i : Nat} (hp : some g ≠ v.ownBlock) (u : Value) : Own tByte 5 (w.setCell ⟨g, i, none⟩ u) base v xs :=
  h.kept (grown_set (grown_refl _ _) _) (by
    cases hq : v.ownBlock with
    | none => exact .inl rfl
    | some k => exact .inr (fun e => hp (by rw [hq, ← e])))
/-- what has been told is stored -/
theorem DSt.setO (h : DSt w0 w gp go vP vR vO vQ H O) : DSt w0 (w.setCell ⟨go, 0, none⟩ vQ) gp go vP vR vQ vQ H O :=
  ⟨h.ext.set h.lo _, h.bp.far h.np _, h.bo.set 0 vQ, h.p.far h.rgo _, h.o.far8 h.qgo _, h.ne, h.lp, h.lo, h.np⟩
/-- what is held back is stored -/
theorem DSt.setP (h : DSt w0 w gp go vP vR vO vQ H O) : DSt w0 (w.setCell ⟨gp, 0, none⟩ vR) gp go vR vR vO vQ H O :=
  ⟨h.ext.set h.lp _, h.bp.set 0 vR, h.bo.far (fun e => h.np e.symm) _, h.p.far h.rgp _, h.o.far8 h.qgp _, h.ne, h.lp, h.lo, h.np⟩
end
/-- how long the slice in a variable is -/
def varLen (w : World) (g : Nat) : Nat := match w.cell? ⟨g, 0, none⟩ with | some v => lenV v | none => 0
theorem varLen_is {w : World} {g t : Nat} {v : Value} (h : Blk w g t #[v]) : varLen w g = lenV v := by unfold varLen; rw [h.at_ 0 rfl]; rfl
set_option maxHeartbeats 4000000 in
set_option maxRecDepth 100000 in
theorem flush_any (w0 w : World) (gp go : Nat) (vP vO : Value) (H O : List Int) (h : DSt w0 w gp go vP vP vO vO H O) (hl : O.length ≤ 100000) (hHl : H.length ≤ 100000) :
    Calls Try.prog 79 #[.pointer (some ⟨gp, 0, none⟩), .pointer (some ⟨go, 0, none⟩)] w fun e w' => ∃ vP' vO', e = .returned (.tuple #[]) ∧ DSt w0 w' gp go vP' vP' vO' vO' [] (O ++ chk H.length H) := by
  have HD := Lib.hid h
  clear h
  go_enter Try.func79, Try.ntmps79
  go_wp2_with fail
  go_loopw [2] (fun _ wr => ∃ (q O' : List Int) (vP vO : Value), DSt w0 wr gp go vP vP vO vO q O' ∧ O ++ chk H.length H = O' ++ chk q.length q ∧ O'.length + 3 * q.length ≤ O.length + 3 * H.length ∧ q.length ≤ H.length) (fun _ wr => varLen wr gp)
  case atStart => exact ⟨H, O, vP, vO, HD.out, rfl, Nat.le_refl _, Nat.le_refl _⟩
  case round =>
    clear HD
    obtain ⟨q, O', vP1, vO1, hD, hF, hol, hql⟩ := hrel
    obtain ⟨g, o, c1, rfl⟩ := hD.p.shape
    obtain ⟨C, cn, cc, rfl⟩ := hD.o.shape3
    have HF := Lib.hid hF
    have HD := Lib.hid hD
    have d0 := hD.bp.at_ 0 rfl
    have d1 := hD.bo.at_ 0 rfl
    clear hF hD
    by_cases hq : q.length = 0
    · obtain rfl : q = [] := List.eq_nil_of_length_eq_zero hq
      have HF2 := Lib.hid (show O ++ chk H.length H = O' by rw [HF.out, chk_nil, List.append_nil])
      go_wp2_with fail
      first | (refine bodyPost_ret (results_none rfl _ _ _) rfl ?_) | (refine bodyPost_end (results_none rfl _ _ _) rfl ?_)
      exact ⟨_, _, rfl, by rw [HF2.out]; exact HD.out⟩
    have hq1 : (0 : Int) < (q.length : Int) := by omega
    obtain ⟨_, hqc, _, hqB, _⟩ := HD.out.p.rd
    have HQB := Lib.hid hqB
    clear hqB
    by_cases hbig : 255 ≤ q.length
    · have hbigI : (255 : Int) ≤ (q.length : Int) := by omega
      have hW : IntKind.u8.wrap 255 = 255 := by decide
      by_cases hcn : c1 = 255
      · subst hcn
        have hcn : 255 = 255 := rfl
        have hq25 : q.length = 255 := by omega
        have HQ25 := Lib.hid hq25
        clear hq25
        have HSTEP := Lib.hid (chk_step q 255 (by omega) (by omega))
        go_wp2_with fail
        refine wp_region_held_drew (S := fun W => Blk W gp 22 #[.slice (some ⟨g, o, none⟩) q.length 255]) (by kernel_rfl) HD.out.bp (fun hHeld => ?_)
        have HDd := Lib.hid (HD.out.on (Ext.refl _).drew)
        have HVL := Lib.hid (varLen_is HD.out.bp)
        generalize World.drew wr = wd at hHeld HDd ⊢
        clear d0 d1 HD
        refine wpAnyH_take (i := 1) (oi := ?oiz1) (v := ?vz1) ?hiz1 (by kernel_rfl) (by kernel_rfl) (by kernel_rfl) ?hQz1 ?hyz1 (by assumption) ?restz1
        case hiz1 => simp only [List.getElem?_toArray, List.getElem?_cons_zero, List.getElem?_cons_succ]; rfl
        case hQz1 => exact fun _ _ _ h => h
        case hyz1 => exact Or.inl ⟨by rfl, by intro w hSw; (try dsimp only at hSw); go_simp; with_reducible rfl⟩
        try simp only [Act.put, List.setIfInBounds_toArray, List.set_cons_zero, List.set_cons_succ]
        refine wpAnyH_take (i := 2) (oi := ?oiz2) (v := (.int .u8 255)) ?hiz2 (by kernel_rfl) (by kernel_rfl) (by kernel_rfl) ?hQz2 ?hyz2 (by assumption) ?restz2
        case hiz2 => simp only [List.getElem?_toArray, List.getElem?_cons_zero, List.getElem?_cons_succ]; rfl
        case hQz2 => exact fun _ _ _ h => h
        case hyz2 => exact Or.inl ⟨by rfl, by intro w hSw; go_simp; first | done | (simp only [hW]; done) | (rw [hW]; done) | with_reducible rfl⟩
        try simp only [Act.put, List.setIfInBounds_toArray, List.set_cons_zero, List.set_cons_succ]
        refine wpAnyH_take (i := 5) (oi := ?oiz3) (v := ?vz3) ?hiz3 (by kernel_rfl) (by kernel_rfl) (by kernel_rfl) ?hQz3 ?hyz3 (by assumption) ?restz3
        case hiz3 => simp only [List.getElem?_toArray, List.getElem?_cons_zero, List.getElem?_cons_succ]; rfl
        case hQz3 => exact fun _ _ _ h => h
        case hyz3 => exact Or.inl ⟨by rfl, by intro w hSw; have p0 := hSw.at_ 0 rfl; go_simp; with_reducible rfl⟩
        try simp only [Act.put, List.setIfInBounds_toArray, List.set_cons_zero, List.set_cons_succ]
        refine wpAnyH_take (i := 6) (oi := ?oiz4) (v := ?vz4) ?hiz4 (by kernel_rfl) (by kernel_rfl) (by kernel_rfl) ?hQz4 ?hyz4 (by assumption) ?restz4
        case hiz4 => simp only [List.getElem?_toArray, List.getElem?_cons_zero, List.getElem?_cons_succ]; rfl
        case hQz4 => exact fun _ _ _ h => h
        case hyz4 => exact Or.inl ⟨by rfl, by intro w hSw; (try dsimp only at hSw); go_simp; with_reducible rfl⟩
        try simp only [Act.put, List.setIfInBounds_toArray, List.set_cons_zero, List.set_cons_succ]
        refine wpAnyH_take (i := 7) (oi := ?oiz5) (v := ?vz5) ?hiz5 (by kernel_rfl) (by kernel_rfl) (by kernel_rfl) ?hQz5 ?hyz5 (by assumption) ?restz5
        case hiz5 => simp only [List.getElem?_toArray, List.getElem?_cons_zero, List.getElem?_cons_succ]; rfl
        case hQz5 => exact fun _ _ _ h => h
        case hyz5 => exact Or.inl ⟨by rfl, by intro w hSw; (try dsimp only at hSw); go_simp; with_reducible rfl⟩
        try simp only [Act.put, List.setIfInBounds_toArray, List.set_cons_zero, List.set_cons_succ]
        refine wpAnyH_ready (rs := [0, 3]) (by kernel_rfl) (by simp) (AllReadyH.cons (o := ?oy60) ?hy60 (fun K hK => ?sy60) (AllReadyH.cons (o := ?oy63) ?hy63 (fun K hK => ?sy63) AllReadyH.nil))
        case hy60 => simp only [List.getElem?_toArray, List.getElem?_cons_zero, List.getElem?_cons_succ]; rfl
        case hy63 => simp only [List.getElem?_toArray, List.getElem?_cons_zero, List.getElem?_cons_succ]; rfl
        case sy60 =>
          have HX := HDd
          have s1 := HX.out.bo.at_ 0 rfl
          go_simp
          refine hK.out _ _ hHeld (fun _ => ?_)
          clear hK K s1
          try simp only [Act.put, List.setIfInBounds_toArray, List.set_cons_zero, List.set_cons_succ]
          clear HX
          refine wpAnyH_ready (rs := [3]) (by kernel_rfl) (by simp) (AllReadyH.cons (o := ?oy73) ?hy73 (fun K hK => ?sy73) AllReadyH.nil)
          case hy73 => simp only [List.getElem?_toArray, List.getElem?_cons_zero, List.getElem?_cons_succ]; rfl
          go_simp
          have hH2 : Blk (wd.alloc (.cells #[.int .u8 0, .int .u8 255] 5)) gp 22 #[.slice (some ⟨g, o, none⟩) q.length 255] := hHeld.alloc _
          refine hK.out _ _ hH2 (fun _ => ?_)
          clear hK K hHeld
          have hHeld := hH2
          clear hH2
          try simp only [Act.put, List.setIfInBounds_toArray, List.set_cons_zero, List.set_cons_succ]
          have HDe := Lib.hid (HDd.out.on (ext_alloc wd (.cells #[.int .u8 0, .int .u8 255] 5)))
          clear HDd
          refine wpAnyH_ready (rs := [4]) (by kernel_rfl) (by simp) (AllReadyH.cons (o := ?oy84) ?hy84 (fun K hK => ?sy84) AllReadyH.nil)
          case hy84 => simp only [List.getElem?_toArray, List.getElem?_cons_zero, List.getElem?_cons_succ]; rfl
          refine stp_append rowByte rfl _ _ rfl (v := .slice C cn cc) rfl HDe.out.o _ _ rfl (A := some ⟨wd.heap.size, 0, none⟩) (ys := [0, 255]) rfl (rd_two wd 0 255 _) (ok2 (by omega) (by omega)) (by simp only [List.length_cons, List.length_nil]; omega) HDe.out.ext.size ?_
          intro v4 w4 ho1 hg1 hat1
          obtain ⟨C4, n4, c4, rfl⟩ := ho1.shape3
          have HD4 := Lib.hid (HDe.out.app ho1 (Go1.app hg1 hat1))
          have hH2 := HD4.out.bp
          clear ho1 hg1 hat1 HDe
          refine hK.out _ _ hH2 (fun _ => ?_)
          clear hK K hHeld
          have hHeld := hH2
          clear hH2
          try simp only [Act.put, List.setIfInBounds_toArray, List.set_cons_zero, List.set_cons_succ]
          refine wpAnyH_ready (rs := [8]) (by kernel_rfl) (by simp) (AllReadyH.cons (o := ?oy98) ?hy98 (fun K hK => ?sy98) AllReadyH.nil)
          case hy98 => simp only [List.getElem?_toArray, List.getElem?_cons_zero, List.getElem?_cons_succ]; rfl
          refine stp_append rowByte rfl _ _ rfl (v := .slice C4 n4 c4) rfl HD4.out.o _ _ rfl (A := some ⟨g, o, none⟩) (ys := q.take 255) (by simp only [List.length_take]; omega) (HD4.out.p.rd.2.2.2.2.head8 255 (by omega)) (fun x hx => HQB.out x (List.mem_of_mem_take hx)) (by simp only [List.length_append, List.length_take, List.length_cons, List.length_nil]; omega) HD4.out.ext.size ?_
          intro v5 w5 ho1 hg1 hat1
          obtain ⟨C5, n5, c5, rfl⟩ := ho1.shape3
          have HD5 := Lib.hid (HD4.out.app ho1 (Go1.app hg1 hat1))
          have hH2 := HD5.out.bp
          clear ho1 hg1 hat1 HD4
          refine hK.out _ _ hH2 (fun _ => ?_)
          clear hK K hHeld
          have hHeld := hH2
          clear hH2
          try simp only [Act.put, List.setIfInBounds_toArray, List.set_cons_zero, List.set_cons_succ]
          refine wpAnyH_ready (rs := [9]) (by kernel_rfl) (by simp) (AllReadyH.cons (o := ?oy109) ?hy109 (fun K hK => ?sy109) AllReadyH.nil)
          case hy109 => simp only [List.getElem?_toArray, List.getElem?_cons_zero, List.getElem?_cons_succ]; rfl
          have s3 := HD5.out.bo.at_ 0 rfl
          have t3 := HD5.out.bo.free 0
          go_simp
          have HD6 := Lib.hid HD5.out.setO
          have hH2 := HD6.out.bp
          clear s3 t3
          refine hK.out _ _ hH2 (fun _ => ?_)
          clear hK K hHeld
          have hHeld := hH2
          clear hH2
          try simp only [Act.put, List.setIfInBounds_toArray, List.set_cons_zero, List.set_cons_succ]
          refine wpAnyH_done (by kernel_rfl) ?_ _
          clear hHeld
          generalize w5.setCell ⟨go, 0, none⟩ (.slice C5 n5 c5) = w6 at HD6 ⊢
          clear HD5
          have s4 := HD6.out.bp.at_ 0 rfl
          have t4 := HD6.out.bp.free 0
          have hc := HD6.out.p.cut 255 (by omega)
          rw [if_pos rfl] at hc
          rw [Nat.sub_self] at hc
          rw [show q.length - 255 = 0 by have := HQ25.out; omega] at hc
          have HD7 := Lib.hid ((HD6.out.cutP hc rfl).setP)
          clear hc
          go_wp2_with fail
          go_roundw
          case rel => exact ⟨q.drop 255, _, _, _, HD7.out, by rw [HF.out, HSTEP.out]; (try simp only [List.append_assoc]); (try rfl), by simp only [List.length_append, List.length_take, List.length_drop, List.length_cons, List.length_nil]; omega, by rw [List.length_drop]; omega⟩
          case measure =>
            have h7 := varLen_is HD7.out.bp
            rw [HVL.out]
            refine Nat.lt_of_le_of_lt (Nat.le_of_eq h7) ?_
            simp only [lenV]
            omega
        case sy63 =>
          go_simp
          have hH2 : Blk (wd.alloc (.cells #[.int .u8 0, .int .u8 255] 5)) gp 22 #[.slice (some ⟨g, o, none⟩) q.length 255] := hHeld.alloc _
          refine hK.out _ _ hH2 (fun _ => ?_)
          clear hK K hHeld
          have hHeld := hH2
          clear hH2
          try simp only [Act.put, List.setIfInBounds_toArray, List.set_cons_zero, List.set_cons_succ]
          have HX := Lib.hid (HDd.out.on (ext_alloc wd (.cells #[.int .u8 0, .int .u8 255] 5)))
          refine wpAnyH_ready (rs := [0]) (by kernel_rfl) (by simp) (AllReadyH.cons (o := ?oy110) ?hy110 (fun K hK => ?sy110) AllReadyH.nil)
          case hy110 => simp only [List.getElem?_toArray, List.getElem?_cons_zero, List.getElem?_cons_succ]; rfl
          have s1 := HX.out.bo.at_ 0 rfl
          go_simp
          refine hK.out _ _ hHeld (fun _ => ?_)
          clear hK K s1
          try simp only [Act.put, List.setIfInBounds_toArray, List.set_cons_zero, List.set_cons_succ]
          clear HX
          have HDe := Lib.hid (HDd.out.on (ext_alloc wd (.cells #[.int .u8 0, .int .u8 255] 5)))
          clear HDd
          refine wpAnyH_ready (rs := [4]) (by kernel_rfl) (by simp) (AllReadyH.cons (o := ?oy124) ?hy124 (fun K hK => ?sy124) AllReadyH.nil)
          case hy124 => simp only [List.getElem?_toArray, List.getElem?_cons_zero, List.getElem?_cons_succ]; rfl
          refine stp_append rowByte rfl _ _ rfl (v := .slice C cn cc) rfl HDe.out.o _ _ rfl (A := some ⟨wd.heap.size, 0, none⟩) (ys := [0, 255]) rfl (rd_two wd 0 255 _) (ok2 (by omega) (by omega)) (by simp only [List.length_cons, List.length_nil]; omega) HDe.out.ext.size ?_
          intro v4 w4 ho1 hg1 hat1
          obtain ⟨C4, n4, c4, rfl⟩ := ho1.shape3
          have HD4 := Lib.hid (HDe.out.app ho1 (Go1.app hg1 hat1))
          have hH2 := HD4.out.bp
          clear ho1 hg1 hat1 HDe
          refine hK.out _ _ hH2 (fun _ => ?_)
          clear hK K hHeld
          have hHeld := hH2
          clear hH2
          try simp only [Act.put, List.setIfInBounds_toArray, List.set_cons_zero, List.set_cons_succ]
          refine wpAnyH_ready (rs := [8]) (by kernel_rfl) (by simp) (AllReadyH.cons (o := ?oy138) ?hy138 (fun K hK => ?sy138) AllReadyH.nil)
          case hy138 => simp only [List.getElem?_toArray, List.getElem?_cons_zero, List.getElem?_cons_succ]; rfl
          refine stp_append rowByte rfl _ _ rfl (v := .slice C4 n4 c4) rfl HD4.out.o _ _ rfl (A := some ⟨g, o, none⟩) (ys := q.take 255) (by simp only [List.length_take]; omega) (HD4.out.p.rd.2.2.2.2.head8 255 (by omega)) (fun x hx => HQB.out x (List.mem_of_mem_take hx)) (by simp only [List.length_append, List.length_take, List.length_cons, List.length_nil]; omega) HD4.out.ext.size ?_
          intro v5 w5 ho1 hg1 hat1
          obtain ⟨C5, n5, c5, rfl⟩ := ho1.shape3
          have HD5 := Lib.hid (HD4.out.app ho1 (Go1.app hg1 hat1))
          have hH2 := HD5.out.bp
          clear ho1 hg1 hat1 HD4
          refine hK.out _ _ hH2 (fun _ => ?_)
          clear hK K hHeld
          have hHeld := hH2
          clear hH2
          try simp only [Act.put, List.setIfInBounds_toArray, List.set_cons_zero, List.set_cons_succ]
          refine wpAnyH_ready (rs := [9]) (by kernel_rfl) (by simp) (AllReadyH.cons (o := ?oy149) ?hy149 (fun K hK => ?sy149) AllReadyH.nil)
          case hy149 => simp only [List.getElem?_toArray, List.getElem?_cons_zero, List.getElem?_cons_succ]; rfl
          have s3 := HD5.out.bo.at_ 0 rfl
          have t3 := HD5.out.bo.free 0
          go_simp
          have HD6 := Lib.hid HD5.out.setO
          have hH2 := HD6.out.bp
          clear s3 t3
          refine hK.out _ _ hH2 (fun _ => ?_)
          clear hK K hHeld
          have hHeld := hH2
          clear hH2
          try simp only [Act.put, List.setIfInBounds_toArray, List.set_cons_zero, List.set_cons_succ]
          refine wpAnyH_done (by kernel_rfl) ?_ _
          clear hHeld
          generalize w5.setCell ⟨go, 0, none⟩ (.slice C5 n5 c5) = w6 at HD6 ⊢
          clear HD5
          have s4 := HD6.out.bp.at_ 0 rfl
          have t4 := HD6.out.bp.free 0
          have hc := HD6.out.p.cut 255 (by omega)
          rw [if_pos rfl] at hc
          rw [Nat.sub_self] at hc
          rw [show q.length - 255 = 0 by have := HQ25.out; omega] at hc
          have HD7 := Lib.hid ((HD6.out.cutP hc rfl).setP)
          clear hc
          go_wp2_with fail
          go_roundw
          case rel => exact ⟨q.drop 255, _, _, _, HD7.out, by rw [HF.out, HSTEP.out]; (try simp only [List.append_assoc]); (try rfl), by simp only [List.length_append, List.length_take, List.length_drop, List.length_cons, List.length_nil]; omega, by rw [List.length_drop]; omega⟩
          case measure =>
            have h7 := varLen_is HD7.out.bp
            rw [HVL.out]
            refine Nat.lt_of_le_of_lt (Nat.le_of_eq h7) ?_
            simp only [lenV]
            omega
      · have hcI : (255 : Int) ≤ (c1 : Int) := by omega
        have HSTEP := Lib.hid (chk_step q 255 (by omega) (by omega))
        go_wp2_with fail
        refine wp_region_held_drew (S := fun W => Blk W gp 22 #[.slice (some ⟨g, o, none⟩) q.length c1]) (by kernel_rfl) HD.out.bp (fun hHeld => ?_)
        have HDd := Lib.hid (HD.out.on (Ext.refl _).drew)
        have HVL := Lib.hid (varLen_is HD.out.bp)
        generalize World.drew wr = wd at hHeld HDd ⊢
        clear d0 d1 HD
        refine wpAnyH_take (i := 1) (oi := ?oiz15) (v := ?vz15) ?hiz15 (by kernel_rfl) (by kernel_rfl) (by kernel_rfl) ?hQz15 ?hyz15 (by assumption) ?restz15
        case hiz15 => simp only [List.getElem?_toArray, List.getElem?_cons_zero, List.getElem?_cons_succ]; rfl
        case hQz15 => exact fun _ _ _ h => h
        case hyz15 => exact Or.inl ⟨by rfl, by intro w hSw; (try dsimp only at hSw); go_simp; with_reducible rfl⟩
        try simp only [Act.put, List.setIfInBounds_toArray, List.set_cons_zero, List.set_cons_succ]
        refine wpAnyH_take (i := 2) (oi := ?oiz16) (v := (.int .u8 255)) ?hiz16 (by kernel_rfl) (by kernel_rfl) (by kernel_rfl) ?hQz16 ?hyz16 (by assumption) ?restz16
        case hiz16 => simp only [List.getElem?_toArray, List.getElem?_cons_zero, List.getElem?_cons_succ]; rfl
        case hQz16 => exact fun _ _ _ h => h
        case hyz16 => exact Or.inl ⟨by rfl, by intro w hSw; go_simp; first | done | (simp only [hW]; done) | (rw [hW]; done) | with_reducible rfl⟩
        try simp only [Act.put, List.setIfInBounds_toArray, List.set_cons_zero, List.set_cons_succ]
        refine wpAnyH_take (i := 5) (oi := ?oiz17) (v := ?vz17) ?hiz17 (by kernel_rfl) (by kernel_rfl) (by kernel_rfl) ?hQz17 ?hyz17 (by assumption) ?restz17
        case hiz17 => simp only [List.getElem?_toArray, List.getElem?_cons_zero, List.getElem?_cons_succ]; rfl
        case hQz17 => exact fun _ _ _ h => h
        case hyz17 => exact Or.inl ⟨by rfl, by intro w hSw; have p0 := hSw.at_ 0 rfl; go_simp; with_reducible rfl⟩
        try simp only [Act.put, List.setIfInBounds_toArray, List.set_cons_zero, List.set_cons_succ]
        refine wpAnyH_take (i := 6) (oi := ?oiz18) (v := ?vz18) ?hiz18 (by kernel_rfl) (by kernel_rfl) (by kernel_rfl) ?hQz18 ?hyz18 (by assumption) ?restz18
        case hiz18 => simp only [List.getElem?_toArray, List.getElem?_cons_zero, List.getElem?_cons_succ]; rfl
        case hQz18 => exact fun _ _ _ h => h
        case hyz18 => exact Or.inl ⟨by rfl, by intro w hSw; (try dsimp only at hSw); go_simp; with_reducible rfl⟩
        try simp only [Act.put, List.setIfInBounds_toArray, List.set_cons_zero, List.set_cons_succ]
        refine wpAnyH_take (i := 7) (oi := ?oiz19) (v := ?vz19) ?hiz19 (by kernel_rfl) (by kernel_rfl) (by kernel_rfl) ?hQz19 ?hyz19 (by assumption) ?restz19
        case hiz19 => simp only [List.getElem?_toArray, List.getElem?_cons_zero, List.getElem?_cons_succ]; rfl
        case hQz19 => exact fun _ _ _ h => h
        case hyz19 => exact Or.inl ⟨by rfl, by intro w hSw; (try dsimp only at hSw); go_simp; with_reducible rfl⟩
        try simp only [Act.put, List.setIfInBounds_toArray, List.set_cons_zero, List.set_cons_succ]
        refine wpAnyH_ready (rs := [0, 3]) (by kernel_rfl) (by simp) (AllReadyH.cons (o := ?oy200) ?hy200 (fun K hK => ?sy200) (AllReadyH.cons (o := ?oy203) ?hy203 (fun K hK => ?sy203) AllReadyH.nil))
        case hy200 => simp only [List.getElem?_toArray, List.getElem?_cons_zero, List.getElem?_cons_succ]; rfl
        case hy203 => simp only [List.getElem?_toArray, List.getElem?_cons_zero, List.getElem?_cons_succ]; rfl
        case sy200 =>
          have HX := HDd
          have s1 := HX.out.bo.at_ 0 rfl
          go_simp
          refine hK.out _ _ hHeld (fun _ => ?_)
          clear hK K s1
          try simp only [Act.put, List.setIfInBounds_toArray, List.set_cons_zero, List.set_cons_succ]
          clear HX
          refine wpAnyH_ready (rs := [3]) (by kernel_rfl) (by simp) (AllReadyH.cons (o := ?oy213) ?hy213 (fun K hK => ?sy213) AllReadyH.nil)
          case hy213 => simp only [List.getElem?_toArray, List.getElem?_cons_zero, List.getElem?_cons_succ]; rfl
          go_simp
          have hH2 : Blk (wd.alloc (.cells #[.int .u8 0, .int .u8 255] 5)) gp 22 #[.slice (some ⟨g, o, none⟩) q.length c1] := hHeld.alloc _
          refine hK.out _ _ hH2 (fun _ => ?_)
          clear hK K hHeld
          have hHeld := hH2
          clear hH2
          try simp only [Act.put, List.setIfInBounds_toArray, List.set_cons_zero, List.set_cons_succ]
          have HDe := Lib.hid (HDd.out.on (ext_alloc wd (.cells #[.int .u8 0, .int .u8 255] 5)))
          clear HDd
          refine wpAnyH_ready (rs := [4]) (by kernel_rfl) (by simp) (AllReadyH.cons (o := ?oy224) ?hy224 (fun K hK => ?sy224) AllReadyH.nil)
          case hy224 => simp only [List.getElem?_toArray, List.getElem?_cons_zero, List.getElem?_cons_succ]; rfl
          refine stp_append rowByte rfl _ _ rfl (v := .slice C cn cc) rfl HDe.out.o _ _ rfl (A := some ⟨wd.heap.size, 0, none⟩) (ys := [0, 255]) rfl (rd_two wd 0 255 _) (ok2 (by omega) (by omega)) (by simp only [List.length_cons, List.length_nil]; omega) HDe.out.ext.size ?_
          intro v4 w4 ho1 hg1 hat1
          obtain ⟨C4, n4, c4, rfl⟩ := ho1.shape3
          have HD4 := Lib.hid (HDe.out.app ho1 (Go1.app hg1 hat1))
          have hH2 := HD4.out.bp
          clear ho1 hg1 hat1 HDe
          refine hK.out _ _ hH2 (fun _ => ?_)
          clear hK K hHeld
          have hHeld := hH2
          clear hH2
          try simp only [Act.put, List.setIfInBounds_toArray, List.set_cons_zero, List.set_cons_succ]
          refine wpAnyH_ready (rs := [8]) (by kernel_rfl) (by simp) (AllReadyH.cons (o := ?oy238) ?hy238 (fun K hK => ?sy238) AllReadyH.nil)
          case hy238 => simp only [List.getElem?_toArray, List.getElem?_cons_zero, List.getElem?_cons_succ]; rfl
          refine stp_append rowByte rfl _ _ rfl (v := .slice C4 n4 c4) rfl HD4.out.o _ _ rfl (A := some ⟨g, o, none⟩) (ys := q.take 255) (by simp only [List.length_take]; omega) (HD4.out.p.rd.2.2.2.2.head8 255 (by omega)) (fun x hx => HQB.out x (List.mem_of_mem_take hx)) (by simp only [List.length_append, List.length_take, List.length_cons, List.length_nil]; omega) HD4.out.ext.size ?_
          intro v5 w5 ho1 hg1 hat1
          obtain ⟨C5, n5, c5, rfl⟩ := ho1.shape3
          have HD5 := Lib.hid (HD4.out.app ho1 (Go1.app hg1 hat1))
          have hH2 := HD5.out.bp
          clear ho1 hg1 hat1 HD4
          refine hK.out _ _ hH2 (fun _ => ?_)
          clear hK K hHeld
          have hHeld := hH2
          clear hH2
          try simp only [Act.put, List.setIfInBounds_toArray, List.set_cons_zero, List.set_cons_succ]
          refine wpAnyH_ready (rs := [9]) (by kernel_rfl) (by simp) (AllReadyH.cons (o := ?oy249) ?hy249 (fun K hK => ?sy249) AllReadyH.nil)
          case hy249 => simp only [List.getElem?_toArray, List.getElem?_cons_zero, List.getElem?_cons_succ]; rfl
          have s3 := HD5.out.bo.at_ 0 rfl
          have t3 := HD5.out.bo.free 0
          go_simp
          have HD6 := Lib.hid HD5.out.setO
          have hH2 := HD6.out.bp
          clear s3 t3
          refine hK.out _ _ hH2 (fun _ => ?_)
          clear hK K hHeld
          have hHeld := hH2
          clear hH2
          try simp only [Act.put, List.setIfInBounds_toArray, List.set_cons_zero, List.set_cons_succ]
          refine wpAnyH_done (by kernel_rfl) ?_ _
          clear hHeld
          generalize w5.setCell ⟨go, 0, none⟩ (.slice C5 n5 c5) = w6 at HD6 ⊢
          clear HD5
          have s4 := HD6.out.bp.at_ 0 rfl
          have t4 := HD6.out.bp.free 0
          have hc := HD6.out.p.cut 255 (by omega)
          rw [if_neg hcn] at hc
          have HD7 := Lib.hid ((HD6.out.cutP hc rfl).setP)
          clear hc
          go_wp2_with fail
          go_roundw
          case rel => exact ⟨q.drop 255, _, _, _, HD7.out, by rw [HF.out, HSTEP.out]; (try simp only [List.append_assoc]); (try rfl), by simp only [List.length_append, List.length_take, List.length_drop, List.length_cons, List.length_nil]; omega, by rw [List.length_drop]; omega⟩
          case measure =>
            have h7 := varLen_is HD7.out.bp
            rw [HVL.out]
            refine Nat.lt_of_le_of_lt (Nat.le_of_eq h7) ?_
            simp only [lenV]
            omega
        case sy203 =>
          go_simp
          have hH2 : Blk (wd.alloc (.cells #[.int .u8 0, .int .u8 255] 5)) gp 22 #[.slice (some ⟨g, o, none⟩) q.length c1] := hHeld.alloc _
          refine hK.out _ _ hH2 (fun _ => ?_)
          clear hK K hHeld
          have hHeld := hH2
          clear hH2
          try simp only [Act.put, List.setIfInBounds_toArray, List.set_cons_zero, List.set_cons_succ]
          have HX := Lib.hid (HDd.out.on (ext_alloc wd (.cells #[.int .u8 0, .int .u8 255] 5)))
          refine wpAnyH_ready (rs := [0]) (by kernel_rfl) (by simp) (AllReadyH.cons (o := ?oy250) ?hy250 (fun K hK => ?sy250) AllReadyH.nil)
          case hy250 => simp only [List.getElem?_toArray, List.getElem?_cons_zero, List.getElem?_cons_succ]; rfl
          have s1 := HX.out.bo.at_ 0 rfl
          go_simp
          refine hK.out _ _ hHeld (fun _ => ?_)
          clear hK K s1
          try simp only [Act.put, List.setIfInBounds_toArray, List.set_cons_zero, List.set_cons_succ]
          clear HX
          have HDe := Lib.hid (HDd.out.on (ext_alloc wd (.cells #[.int .u8 0, .int .u8 255] 5)))
          clear HDd
          refine wpAnyH_ready (rs := [4]) (by kernel_rfl) (by simp) (AllReadyH.cons (o := ?oy264) ?hy264 (fun K hK => ?sy264) AllReadyH.nil)
          case hy264 => simp only [List.getElem?_toArray, List.getElem?_cons_zero, List.getElem?_cons_succ]; rfl
          refine stp_append rowByte rfl _ _ rfl (v := .slice C cn cc) rfl HDe.out.o _ _ rfl (A := some ⟨wd.heap.size, 0, none⟩) (ys := [0, 255]) rfl (rd_two wd 0 255 _) (ok2 (by omega) (by omega)) (by simp only [List.length_cons, List.length_nil]; omega) HDe.out.ext.size ?_
          intro v4 w4 ho1 hg1 hat1
          obtain ⟨C4, n4, c4, rfl⟩ := ho1.shape3
          have HD4 := Lib.hid (HDe.out.app ho1 (Go1.app hg1 hat1))
          have hH2 := HD4.out.bp
          clear ho1 hg1 hat1 HDe
          refine hK.out _ _ hH2 (fun _ => ?_)
          clear hK K hHeld
          have hHeld := hH2
          clear hH2
          try simp only [Act.put, List.setIfInBounds_toArray, List.set_cons_zero, List.set_cons_succ]
          refine wpAnyH_ready (rs := [8]) (by kernel_rfl) (by simp) (AllReadyH.cons (o := ?oy278) ?hy278 (fun K hK => ?sy278) AllReadyH.nil)
          case hy278 => simp only [List.getElem?_toArray, List.getElem?_cons_zero, List.getElem?_cons_succ]; rfl
          refine stp_append rowByte rfl _ _ rfl (v := .slice C4 n4 c4) rfl HD4.out.o _ _ rfl (A := some ⟨g, o, none⟩) (ys := q.take 255) (by simp only [List.length_take]; omega) (HD4.out.p.rd.2.2.2.2.head8 255 (by omega)) (fun x hx => HQB.out x (List.mem_of_mem_take hx)) (by simp only [List.length_append, List.length_take, List.length_cons, List.length_nil]; omega) HD4.out.ext.size ?_
          intro v5 w5 ho1 hg1 hat1
          obtain ⟨C5, n5, c5, rfl⟩ := ho1.shape3
          have HD5 := Lib.hid (HD4.out.app ho1 (Go1.app hg1 hat1))
          have hH2 := HD5.out.bp
          clear ho1 hg1 hat1 HD4
          refine hK.out _ _ hH2 (fun _ => ?_)
          clear hK K hHeld
          have hHeld := hH2
          clear hH2
          try simp only [Act.put, List.setIfInBounds_toArray, List.set_cons_zero, List.set_cons_succ]
          refine wpAnyH_ready (rs := [9]) (by kernel_rfl) (by simp) (AllReadyH.cons (o := ?oy289) ?hy289 (fun K hK => ?sy289) AllReadyH.nil)
          case hy289 => simp only [List.getElem?_toArray, List.getElem?_cons_zero, List.getElem?_cons_succ]; rfl
          have s3 := HD5.out.bo.at_ 0 rfl
          have t3 := HD5.out.bo.free 0
          go_simp
          have HD6 := Lib.hid HD5.out.setO
          have hH2 := HD6.out.bp
          clear s3 t3
          refine hK.out _ _ hH2 (fun _ => ?_)
          clear hK K hHeld
          have hHeld := hH2
          clear hH2
          try simp only [Act.put, List.setIfInBounds_toArray, List.set_cons_zero, List.set_cons_succ]
          refine wpAnyH_done (by kernel_rfl) ?_ _
          clear hHeld
          generalize w5.setCell ⟨go, 0, none⟩ (.slice C5 n5 c5) = w6 at HD6 ⊢
          clear HD5
          have s4 := HD6.out.bp.at_ 0 rfl
          have t4 := HD6.out.bp.free 0
          have hc := HD6.out.p.cut 255 (by omega)
          rw [if_neg hcn] at hc
          have HD7 := Lib.hid ((HD6.out.cutP hc rfl).setP)
          clear hc
          go_wp2_with fail
          go_roundw
          case rel => exact ⟨q.drop 255, _, _, _, HD7.out, by rw [HF.out, HSTEP.out]; (try simp only [List.append_assoc]); (try rfl), by simp only [List.length_append, List.length_take, List.length_drop, List.length_cons, List.length_nil]; omega, by rw [List.length_drop]; omega⟩
          case measure =>
            have h7 := varLen_is HD7.out.bp
            rw [HVL.out]
            refine Nat.lt_of_le_of_lt (Nat.le_of_eq h7) ?_
            simp only [lenV]
            omega
    · have hbigI : ¬ (255 : Int) ≤ (q.length : Int) := by omega
      have hbigI2 : (q.length : Int) ≤ 255 := by omega
      have hW : IntKind.u8.wrap (q.length : Int) = (q.length : Int) := by simp [IntKind.wrap, IntKind.min, IntKind.max, IntKind.bits, IntKind.signed]; omega
      by_cases hcn : c1 = q.length
      · subst hcn
        have hcn : q.length = q.length := rfl
        have HSTEP := Lib.hid (chk_step q q.length (by omega) (by omega))
        go_wp2_with fail
        refine wp_region_held_drew (S := fun W => Blk W gp 22 #[.slice (some ⟨g, o, none⟩) q.length q.length]) (by kernel_rfl) HD.out.bp (fun hHeld => ?_)
        have HDd := Lib.hid (HD.out.on (Ext.refl _).drew)
        have HVL := Lib.hid (varLen_is HD.out.bp)
        generalize World.drew wr = wd at hHeld HDd ⊢
        clear d0 d1 HD
        refine wpAnyH_take (i := 1) (oi := ?oiz29) (v := ?vz29) ?hiz29 (by kernel_rfl) (by kernel_rfl) (by kernel_rfl) ?hQz29 ?hyz29 (by assumption) ?restz29
        case hiz29 => simp only [List.getElem?_toArray, List.getElem?_cons_zero, List.getElem?_cons_succ]; rfl
        case hQz29 => exact fun _ _ _ h => h
        case hyz29 => exact Or.inl ⟨by rfl, by intro w hSw; (try dsimp only at hSw); go_simp; with_reducible rfl⟩
        try simp only [Act.put, List.setIfInBounds_toArray, List.set_cons_zero, List.set_cons_succ]
        refine wpAnyH_take (i := 2) (oi := ?oiz30) (v := (.int .u8 (q.length : Int))) ?hiz30 (by kernel_rfl) (by kernel_rfl) (by kernel_rfl) ?hQz30 ?hyz30 (by assumption) ?restz30
        case hiz30 => simp only [List.getElem?_toArray, List.getElem?_cons_zero, List.getElem?_cons_succ]; rfl
        case hQz30 => exact fun _ _ _ h => h
        case hyz30 => exact Or.inl ⟨by rfl, by intro w hSw; go_simp; first | done | (simp only [hW]; done) | (rw [hW]; done) | with_reducible rfl⟩
        try simp only [Act.put, List.setIfInBounds_toArray, List.set_cons_zero, List.set_cons_succ]
        refine wpAnyH_take (i := 5) (oi := ?oiz31) (v := ?vz31) ?hiz31 (by kernel_rfl) (by kernel_rfl) (by kernel_rfl) ?hQz31 ?hyz31 (by assumption) ?restz31
        case hiz31 => simp only [List.getElem?_toArray, List.getElem?_cons_zero, List.getElem?_cons_succ]; rfl
        case hQz31 => exact fun _ _ _ h => h
        case hyz31 => exact Or.inl ⟨by rfl, by intro w hSw; have p0 := hSw.at_ 0 rfl; go_simp; with_reducible rfl⟩
        try simp only [Act.put, List.setIfInBounds_toArray, List.set_cons_zero, List.set_cons_succ]
        refine wpAnyH_take (i := 6) (oi := ?oiz32) (v := ?vz32) ?hiz32 (by kernel_rfl) (by kernel_rfl) (by kernel_rfl) ?hQz32 ?hyz32 (by assumption) ?restz32
        case hiz32 => simp only [List.getElem?_toArray, List.getElem?_cons_zero, List.getElem?_cons_succ]; rfl
        case hQz32 => exact fun _ _ _ h => h
        case hyz32 => exact Or.inl ⟨by rfl, by intro w hSw; (try dsimp only at hSw); go_simp; with_reducible rfl⟩
        try simp only [Act.put, List.setIfInBounds_toArray, List.set_cons_zero, List.set_cons_succ]
        refine wpAnyH_take (i := 7) (oi := ?oiz33) (v := ?vz33) ?hiz33 (by kernel_rfl) (by kernel_rfl) (by kernel_rfl) ?hQz33 ?hyz33 (by assumption) ?restz33
        case hiz33 => simp only [List.getElem?_toArray, List.getElem?_cons_zero, List.getElem?_cons_succ]; rfl
        case hQz33 => exact fun _ _ _ h => h
        case hyz33 => exact Or.inl ⟨by rfl, by intro w hSw; (try dsimp only at hSw); go_simp; with_reducible rfl⟩
        try simp only [Act.put, List.setIfInBounds_toArray, List.set_cons_zero, List.set_cons_succ]
        refine wpAnyH_ready (rs := [0, 3]) (by kernel_rfl) (by simp) (AllReadyH.cons (o := ?oy340) ?hy340 (fun K hK => ?sy340) (AllReadyH.cons (o := ?oy343) ?hy343 (fun K hK => ?sy343) AllReadyH.nil))
        case hy340 => simp only [List.getElem?_toArray, List.getElem?_cons_zero, List.getElem?_cons_succ]; rfl
        case hy343 => simp only [List.getElem?_toArray, List.getElem?_cons_zero, List.getElem?_cons_succ]; rfl
        case sy340 =>
          have HX := HDd
          have s1 := HX.out.bo.at_ 0 rfl
          go_simp
          refine hK.out _ _ hHeld (fun _ => ?_)
          clear hK K s1
          try simp only [Act.put, List.setIfInBounds_toArray, List.set_cons_zero, List.set_cons_succ]
          clear HX
          refine wpAnyH_ready (rs := [3]) (by kernel_rfl) (by simp) (AllReadyH.cons (o := ?oy353) ?hy353 (fun K hK => ?sy353) AllReadyH.nil)
          case hy353 => simp only [List.getElem?_toArray, List.getElem?_cons_zero, List.getElem?_cons_succ]; rfl
          go_simp
          have hH2 : Blk (wd.alloc (.cells #[.int .u8 0, .int .u8 (q.length : Int)] 5)) gp 22 #[.slice (some ⟨g, o, none⟩) q.length q.length] := hHeld.alloc _
          refine hK.out _ _ hH2 (fun _ => ?_)
          clear hK K hHeld
          have hHeld := hH2
          clear hH2
          try simp only [Act.put, List.setIfInBounds_toArray, List.set_cons_zero, List.set_cons_succ]
          have HDe := Lib.hid (HDd.out.on (ext_alloc wd (.cells #[.int .u8 0, .int .u8 (q.length : Int)] 5)))
          clear HDd
          refine wpAnyH_ready (rs := [4]) (by kernel_rfl) (by simp) (AllReadyH.cons (o := ?oy364) ?hy364 (fun K hK => ?sy364) AllReadyH.nil)
          case hy364 => simp only [List.getElem?_toArray, List.getElem?_cons_zero, List.getElem?_cons_succ]; rfl
          refine stp_append rowByte rfl _ _ rfl (v := .slice C cn cc) rfl HDe.out.o _ _ rfl (A := some ⟨wd.heap.size, 0, none⟩) (ys := [0, (q.length : Int)]) rfl (rd_two wd 0 (q.length : Int) _) (ok2 (by omega) (by omega)) (by simp only [List.length_cons, List.length_nil]; omega) HDe.out.ext.size ?_
          intro v4 w4 ho1 hg1 hat1
          obtain ⟨C4, n4, c4, rfl⟩ := ho1.shape3
          have HD4 := Lib.hid (HDe.out.app ho1 (Go1.app hg1 hat1))
          have hH2 := HD4.out.bp
          clear ho1 hg1 hat1 HDe
          refine hK.out _ _ hH2 (fun _ => ?_)
          clear hK K hHeld
          have hHeld := hH2
          clear hH2
          try simp only [Act.put, List.setIfInBounds_toArray, List.set_cons_zero, List.set_cons_succ]
          refine wpAnyH_ready (rs := [8]) (by kernel_rfl) (by simp) (AllReadyH.cons (o := ?oy378) ?hy378 (fun K hK => ?sy378) AllReadyH.nil)
          case hy378 => simp only [List.getElem?_toArray, List.getElem?_cons_zero, List.getElem?_cons_succ]; rfl
          refine stp_append rowByte rfl _ _ rfl (v := .slice C4 n4 c4) rfl HD4.out.o _ _ rfl (A := some ⟨g, o, none⟩) (ys := q.take q.length) (by simp only [List.length_take]; omega) (HD4.out.p.rd.2.2.2.2.head8 q.length (by omega)) (fun x hx => HQB.out x (List.mem_of_mem_take hx)) (by simp only [List.length_append, List.length_take, List.length_cons, List.length_nil]; omega) HD4.out.ext.size ?_
          intro v5 w5 ho1 hg1 hat1
          obtain ⟨C5, n5, c5, rfl⟩ := ho1.shape3
          have HD5 := Lib.hid (HD4.out.app ho1 (Go1.app hg1 hat1))
          have hH2 := HD5.out.bp
          clear ho1 hg1 hat1 HD4
          refine hK.out _ _ hH2 (fun _ => ?_)
          clear hK K hHeld
          have hHeld := hH2
          clear hH2
          try simp only [Act.put, List.setIfInBounds_toArray, List.set_cons_zero, List.set_cons_succ]
          refine wpAnyH_ready (rs := [9]) (by kernel_rfl) (by simp) (AllReadyH.cons (o := ?oy389) ?hy389 (fun K hK => ?sy389) AllReadyH.nil)
          case hy389 => simp only [List.getElem?_toArray, List.getElem?_cons_zero, List.getElem?_cons_succ]; rfl
          have s3 := HD5.out.bo.at_ 0 rfl
          have t3 := HD5.out.bo.free 0
          go_simp
          have HD6 := Lib.hid HD5.out.setO
          have hH2 := HD6.out.bp
          clear s3 t3
          refine hK.out _ _ hH2 (fun _ => ?_)
          clear hK K hHeld
          have hHeld := hH2
          clear hH2
          try simp only [Act.put, List.setIfInBounds_toArray, List.set_cons_zero, List.set_cons_succ]
          refine wpAnyH_done (by kernel_rfl) ?_ _
          clear hHeld
          generalize w5.setCell ⟨go, 0, none⟩ (.slice C5 n5 c5) = w6 at HD6 ⊢
          clear HD5
          have s4 := HD6.out.bp.at_ 0 rfl
          have t4 := HD6.out.bp.free 0
          have hc := HD6.out.p.cut q.length (by omega)
          rw [if_pos rfl] at hc
          rw [Nat.sub_self] at hc
          have HD7 := Lib.hid ((HD6.out.cutP hc rfl).setP)
          clear hc
          go_wp2_with fail
          go_roundw
          case rel => exact ⟨q.drop q.length, _, _, _, HD7.out, by rw [HF.out, HSTEP.out]; (try simp only [List.append_assoc]); (try rfl), by simp only [List.length_append, List.length_take, List.length_drop, List.length_cons, List.length_nil]; omega, by rw [List.length_drop]; omega⟩
          case measure =>
            have h7 := varLen_is HD7.out.bp
            rw [HVL.out]
            refine Nat.lt_of_le_of_lt (Nat.le_of_eq h7) ?_
            simp only [lenV]
            omega
        case sy343 =>
          go_simp
          have hH2 : Blk (wd.alloc (.cells #[.int .u8 0, .int .u8 (q.length : Int)] 5)) gp 22 #[.slice (some ⟨g, o, none⟩) q.length q.length] := hHeld.alloc _
          refine hK.out _ _ hH2 (fun _ => ?_)
          clear hK K hHeld
          have hHeld := hH2
          clear hH2
          try simp only [Act.put, List.setIfInBounds_toArray, List.set_cons_zero, List.set_cons_succ]
          have HX := Lib.hid (HDd.out.on (ext_alloc wd (.cells #[.int .u8 0, .int .u8 (q.length : Int)] 5)))
          refine wpAnyH_ready (rs := [0]) (by kernel_rfl) (by simp) (AllReadyH.cons (o := ?oy390) ?hy390 (fun K hK => ?sy390) AllReadyH.nil)
          case hy390 => simp only [List.getElem?_toArray, List.getElem?_cons_zero, List.getElem?_cons_succ]; rfl
          have s1 := HX.out.bo.at_ 0 rfl
          go_simp
          refine hK.out _ _ hHeld (fun _ => ?_)
          clear hK K s1
          try simp only [Act.put, List.setIfInBounds_toArray, List.set_cons_zero, List.set_cons_succ]
          clear HX
          have HDe := Lib.hid (HDd.out.on (ext_alloc wd (.cells #[.int .u8 0, .int .u8 (q.length : Int)] 5)))
          clear HDd
          refine wpAnyH_ready (rs := [4]) (by kernel_rfl) (by simp) (AllReadyH.cons (o := ?oy404) ?hy404 (fun K hK => ?sy404) AllReadyH.nil)
          case hy404 => simp only [List.getElem?_toArray, List.getElem?_cons_zero, List.getElem?_cons_succ]; rfl
          refine stp_append rowByte rfl _ _ rfl (v := .slice C cn cc) rfl HDe.out.o _ _ rfl (A := some ⟨wd.heap.size, 0, none⟩) (ys := [0, (q.length : Int)]) rfl (rd_two wd 0 (q.length : Int) _) (ok2 (by omega) (by omega)) (by simp only [List.length_cons, List.length_nil]; omega) HDe.out.ext.size ?_
          intro v4 w4 ho1 hg1 hat1
          obtain ⟨C4, n4, c4, rfl⟩ := ho1.shape3
          have HD4 := Lib.hid (HDe.out.app ho1 (Go1.app hg1 hat1))
          have hH2 := HD4.out.bp
          clear ho1 hg1 hat1 HDe
          refine hK.out _ _ hH2 (fun _ => ?_)
          clear hK K hHeld
          have hHeld := hH2
          clear hH2
          try simp only [Act.put, List.setIfInBounds_toArray, List.set_cons_zero, List.set_cons_succ]
          refine wpAnyH_ready (rs := [8]) (by kernel_rfl) (by simp) (AllReadyH.cons (o := ?oy418) ?hy418 (fun K hK => ?sy418) AllReadyH.nil)
          case hy418 => simp only [List.getElem?_toArray, List.getElem?_cons_zero, List.getElem?_cons_succ]; rfl
          refine stp_append rowByte rfl _ _ rfl (v := .slice C4 n4 c4) rfl HD4.out.o _ _ rfl (A := some ⟨g, o, none⟩) (ys := q.take q.length) (by simp only [List.length_take]; omega) (HD4.out.p.rd.2.2.2.2.head8 q.length (by omega)) (fun x hx => HQB.out x (List.mem_of_mem_take hx)) (by simp only [List.length_append, List.length_take, List.length_cons, List.length_nil]; omega) HD4.out.ext.size ?_
          intro v5 w5 ho1 hg1 hat1
          obtain ⟨C5, n5, c5, rfl⟩ := ho1.shape3
          have HD5 := Lib.hid (HD4.out.app ho1 (Go1.app hg1 hat1))
          have hH2 := HD5.out.bp
          clear ho1 hg1 hat1 HD4
          refine hK.out _ _ hH2 (fun _ => ?_)
          clear hK K hHeld
          have hHeld := hH2
          clear hH2
          try simp only [Act.put, List.setIfInBounds_toArray, List.set_cons_zero, List.set_cons_succ]
          refine wpAnyH_ready (rs := [9]) (by kernel_rfl) (by simp) (AllReadyH.cons (o := ?oy429) ?hy429 (fun K hK => ?sy429) AllReadyH.nil)
          case hy429 => simp only [List.getElem?_toArray, List.getElem?_cons_zero, List.getElem?_cons_succ]; rfl
          have s3 := HD5.out.bo.at_ 0 rfl
          have t3 := HD5.out.bo.free 0
          go_simp
          have HD6 := Lib.hid HD5.out.setO
          have hH2 := HD6.out.bp
          clear s3 t3
          refine hK.out _ _ hH2 (fun _ => ?_)
          clear hK K hHeld
          have hHeld := hH2
          clear hH2
          try simp only [Act.put, List.setIfInBounds_toArray, List.set_cons_zero, List.set_cons_succ]
          refine wpAnyH_done (by kernel_rfl) ?_ _
          clear hHeld
          generalize w5.setCell ⟨go, 0, none⟩ (.slice C5 n5 c5) = w6 at HD6 ⊢
          clear HD5
          have s4 := HD6.out.bp.at_ 0 rfl
          have t4 := HD6.out.bp.free 0
          have hc := HD6.out.p.cut q.length (by omega)
          rw [if_pos rfl] at hc
          rw [Nat.sub_self] at hc
          have HD7 := Lib.hid ((HD6.out.cutP hc rfl).setP)
          clear hc
          go_wp2_with fail
          go_roundw
          case rel => exact ⟨q.drop q.length, _, _, _, HD7.out, by rw [HF.out, HSTEP.out]; (try simp only [List.append_assoc]); (try rfl), by simp only [List.length_append, List.length_take, List.length_drop, List.length_cons, List.length_nil]; omega, by rw [List.length_drop]; omega⟩
          case measure =>
            have h7 := varLen_is HD7.out.bp
            rw [HVL.out]
            refine Nat.lt_of_le_of_lt (Nat.le_of_eq h7) ?_
            simp only [lenV]
            omega
      · have hcI : (q.length : Int) ≤ (c1 : Int) := by omega
        have HSTEP := Lib.hid (chk_step q q.length (by omega) (by omega))
        go_wp2_with fail
        refine wp_region_held_drew (S := fun W => Blk W gp 22 #[.slice (some ⟨g, o, none⟩) q.length c1]) (by kernel_rfl) HD.out.bp (fun hHeld => ?_)
        have HDd := Lib.hid (HD.out.on (Ext.refl _).drew)
        have HVL := Lib.hid (varLen_is HD.out.bp)
        generalize World.drew wr = wd at hHeld HDd ⊢
        clear d0 d1 HD
        refine wpAnyH_take (i := 1) (oi := ?oiz43) (v := ?vz43) ?hiz43 (by kernel_rfl) (by kernel_rfl) (by kernel_rfl) ?hQz43 ?hyz43 (by assumption) ?restz43
        case hiz43 => simp only [List.getElem?_toArray, List.getElem?_cons_zero, List.getElem?_cons_succ]; rfl
        case hQz43 => exact fun _ _ _ h => h
        case hyz43 => exact Or.inl ⟨by rfl, by intro w hSw; (try dsimp only at hSw); go_simp; with_reducible rfl⟩
        try simp only [Act.put, List.setIfInBounds_toArray, List.set_cons_zero, List.set_cons_succ]
        refine wpAnyH_take (i := 2) (oi := ?oiz44) (v := (.int .u8 (q.length : Int))) ?hiz44 (by kernel_rfl) (by kernel_rfl) (by kernel_rfl) ?hQz44 ?hyz44 (by assumption) ?restz44
        case hiz44 => simp only [List.getElem?_toArray, List.getElem?_cons_zero, List.getElem?_cons_succ]; rfl
        case hQz44 => exact fun _ _ _ h => h
        case hyz44 => exact Or.inl ⟨by rfl, by intro w hSw; go_simp; first | done | (simp only [hW]; done) | (rw [hW]; done) | with_reducible rfl⟩
        try simp only [Act.put, List.setIfInBounds_toArray, List.set_cons_zero, List.set_cons_succ]
        refine wpAnyH_take (i := 5) (oi := ?oiz45) (v := ?vz45) ?hiz45 (by kernel_rfl) (by kernel_rfl) (by kernel_rfl) ?hQz45 ?hyz45 (by assumption) ?restz45
        case hiz45 => simp only [List.getElem?_toArray, List.getElem?_cons_zero, List.getElem?_cons_succ]; rfl
        case hQz45 => exact fun _ _ _ h => h
        case hyz45 => exact Or.inl ⟨by rfl, by intro w hSw; have p0 := hSw.at_ 0 rfl; go_simp; with_reducible rfl⟩
        try simp only [Act.put, List.setIfInBounds_toArray, List.set_cons_zero, List.set_cons_succ]
        refine wpAnyH_take (i := 6) (oi := ?oiz46) (v := ?vz46) ?hiz46 (by kernel_rfl) (by kernel_rfl) (by kernel_rfl) ?hQz46 ?hyz46 (by assumption) ?restz46
        case hiz46 => simp only [List.getElem?_toArray, List.getElem?_cons_zero, List.getElem?_cons_succ]; rfl
        case hQz46 => exact fun _ _ _ h => h
        case hyz46 => exact Or.inl ⟨by rfl, by intro w hSw; (try dsimp only at hSw); go_simp; with_reducible rfl⟩
        try simp only [Act.put, List.setIfInBounds_toArray, List.set_cons_zero, List.set_cons_succ]
        refine wpAnyH_take (i := 7) (oi := ?oiz47) (v := ?vz47) ?hiz47 (by kernel_rfl) (by kernel_rfl) (by kernel_rfl) ?hQz47 ?hyz47 (by assumption) ?restz47
        case hiz47 => simp only [List.getElem?_toArray, List.getElem?_cons_zero, List.getElem?_cons_succ]; rfl
        case hQz47 => exact fun _ _ _ h => h
        case hyz47 => exact Or.inl ⟨by rfl, by intro w hSw; (try dsimp only at hSw); go_simp; with_reducible rfl⟩
        try simp only [Act.put, List.setIfInBounds_toArray, List.set_cons_zero, List.set_cons_succ]
        refine wpAnyH_ready (rs := [0, 3]) (by kernel_rfl) (by simp) (AllReadyH.cons (o := ?oy480) ?hy480 (fun K hK => ?sy480) (AllReadyH.cons (o := ?oy483) ?hy483 (fun K hK => ?sy483) AllReadyH.nil))
        case hy480 => simp only [List.getElem?_toArray, List.getElem?_cons_zero, List.getElem?_cons_succ]; rfl
        case hy483 => simp only [List.getElem?_toArray, List.getElem?_cons_zero, List.getElem?_cons_succ]; rfl
        case sy480 =>
          have HX := HDd
          have s1 := HX.out.bo.at_ 0 rfl
          go_simp
          refine hK.out _ _ hHeld (fun _ => ?_)
          clear hK K s1
          try simp only [Act.put, List.setIfInBounds_toArray, List.set_cons_zero, List.set_cons_succ]
          clear HX
          refine wpAnyH_ready (rs := [3]) (by kernel_rfl) (by simp) (AllReadyH.cons (o := ?oy493) ?hy493 (fun K hK => ?sy493) AllReadyH.nil)
          case hy493 => simp only [List.getElem?_toArray, List.getElem?_cons_zero, List.getElem?_cons_succ]; rfl
          go_simp
          have hH2 : Blk (wd.alloc (.cells #[.int .u8 0, .int .u8 (q.length : Int)] 5)) gp 22 #[.slice (some ⟨g, o, none⟩) q.length c1] := hHeld.alloc _
          refine hK.out _ _ hH2 (fun _ => ?_)
          clear hK K hHeld
          have hHeld := hH2
          clear hH2
          try simp only [Act.put, List.setIfInBounds_toArray, List.set_cons_zero, List.set_cons_succ]
          have HDe := Lib.hid (HDd.out.on (ext_alloc wd (.cells #[.int .u8 0, .int .u8 (q.length : Int)] 5)))
          clear HDd
          refine wpAnyH_ready (rs := [4]) (by kernel_rfl) (by simp) (AllReadyH.cons (o := ?oy504) ?hy504 (fun K hK => ?sy504) AllReadyH.nil)
          case hy504 => simp only [List.getElem?_toArray, List.getElem?_cons_zero, List.getElem?_cons_succ]; rfl
          refine stp_append rowByte rfl _ _ rfl (v := .slice C cn cc) rfl HDe.out.o _ _ rfl (A := some ⟨wd.heap.size, 0, none⟩) (ys := [0, (q.length : Int)]) rfl (rd_two wd 0 (q.length : Int) _) (ok2 (by omega) (by omega)) (by simp only [List.length_cons, List.length_nil]; omega) HDe.out.ext.size ?_
          intro v4 w4 ho1 hg1 hat1
          obtain ⟨C4, n4, c4, rfl⟩ := ho1.shape3
          have HD4 := Lib.hid (HDe.out.app ho1 (Go1.app hg1 hat1))
          have hH2 := HD4.out.bp
          clear ho1 hg1 hat1 HDe
          refine hK.out _ _ hH2 (fun _ => ?_)
          clear hK K hHeld
          have hHeld := hH2
          clear hH2
          try simp only [Act.put, List.setIfInBounds_toArray, List.set_cons_zero, List.set_cons_succ]
          refine wpAnyH_ready (rs := [8]) (by kernel_rfl) (by simp) (AllReadyH.cons (o := ?oy518) ?hy518 (fun K hK => ?sy518) AllReadyH.nil)
          case hy518 => simp only [List.getElem?_toArray, List.getElem?_cons_zero, List.getElem?_cons_succ]; rfl
          refine stp_append rowByte rfl _ _ rfl (v := .slice C4 n4 c4) rfl HD4.out.o _ _ rfl (A := some ⟨g, o, none⟩) (ys := q.take q.length) (by simp only [List.length_take]; omega) (HD4.out.p.rd.2.2.2.2.head8 q.length (by omega)) (fun x hx => HQB.out x (List.mem_of_mem_take hx)) (by simp only [List.length_append, List.length_take, List.length_cons, List.length_nil]; omega) HD4.out.ext.size ?_
          intro v5 w5 ho1 hg1 hat1
          obtain ⟨C5, n5, c5, rfl⟩ := ho1.shape3
          have HD5 := Lib.hid (HD4.out.app ho1 (Go1.app hg1 hat1))
          have hH2 := HD5.out.bp
          clear ho1 hg1 hat1 HD4
          refine hK.out _ _ hH2 (fun _ => ?_)
          clear hK K hHeld
          have hHeld := hH2
          clear hH2
          try simp only [Act.put, List.setIfInBounds_toArray, List.set_cons_zero, List.set_cons_succ]
          refine wpAnyH_ready (rs := [9]) (by kernel_rfl) (by simp) (AllReadyH.cons (o := ?oy529) ?hy529 (fun K hK => ?sy529) AllReadyH.nil)
          case hy529 => simp only [List.getElem?_toArray, List.getElem?_cons_zero, List.getElem?_cons_succ]; rfl
          have s3 := HD5.out.bo.at_ 0 rfl
          have t3 := HD5.out.bo.free 0
          go_simp
          have HD6 := Lib.hid HD5.out.setO
          have hH2 := HD6.out.bp
          clear s3 t3
          refine hK.out _ _ hH2 (fun _ => ?_)
          clear hK K hHeld
          have hHeld := hH2
          clear hH2
          try simp only [Act.put, List.setIfInBounds_toArray, List.set_cons_zero, List.set_cons_succ]
          refine wpAnyH_done (by kernel_rfl) ?_ _
          clear hHeld
          generalize w5.setCell ⟨go, 0, none⟩ (.slice C5 n5 c5) = w6 at HD6 ⊢
          clear HD5
          have s4 := HD6.out.bp.at_ 0 rfl
          have t4 := HD6.out.bp.free 0
          have hc := HD6.out.p.cut q.length (by omega)
          rw [if_neg hcn] at hc
          rw [Nat.sub_self] at hc
          have HD7 := Lib.hid ((HD6.out.cutP hc rfl).setP)
          clear hc
          go_wp2_with fail
          go_roundw
          case rel => exact ⟨q.drop q.length, _, _, _, HD7.out, by rw [HF.out, HSTEP.out]; (try simp only [List.append_assoc]); (try rfl), by simp only [List.length_append, List.length_take, List.length_drop, List.length_cons, List.length_nil]; omega, by rw [List.length_drop]; omega⟩
          case measure =>
            have h7 := varLen_is HD7.out.bp
            rw [HVL.out]
            refine Nat.lt_of_le_of_lt (Nat.le_of_eq h7) ?_
            simp only [lenV]
            omega
        case sy483 =>
          go_simp
          have hH2 : Blk (wd.alloc (.cells #[.int .u8 0, .int .u8 (q.length : Int)] 5)) gp 22 #[.slice (some ⟨g, o, none⟩) q.length c1] := hHeld.alloc _
          refine hK.out _ _ hH2 (fun _ => ?_)
          clear hK K hHeld
          have hHeld := hH2
          clear hH2
          try simp only [Act.put, List.setIfInBounds_toArray, List.set_cons_zero, List.set_cons_succ]
          have HX := Lib.hid (HDd.out.on (ext_alloc wd (.cells #[.int .u8 0, .int .u8 (q.length : Int)] 5)))
          refine wpAnyH_ready (rs := [0]) (by kernel_rfl) (by simp) (AllReadyH.cons (o := ?oy530) ?hy530 (fun K hK => ?sy530) AllReadyH.nil)
          case hy530 => simp only [List.getElem?_toArray, List.getElem?_cons_zero, List.getElem?_cons_succ]; rfl
          have s1 := HX.out.bo.at_ 0 rfl
          go_simp
          refine hK.out _ _ hHeld (fun _ => ?_)
          clear hK K s1
          try simp only [Act.put, List.setIfInBounds_toArray, List.set_cons_zero, List.set_cons_succ]
          clear HX
          have HDe := Lib.hid (HDd.out.on (ext_alloc wd (.cells #[.int .u8 0, .int .u8 (q.length : Int)] 5)))
          clear HDd
          refine wpAnyH_ready (rs := [4]) (by kernel_rfl) (by simp) (AllReadyH.cons (o := ?oy544) ?hy544 (fun K hK => ?sy544) AllReadyH.nil)
          case hy544 => simp only [List.getElem?_toArray, List.getElem?_cons_zero, List.getElem?_cons_succ]; rfl
          refine stp_append rowByte rfl _ _ rfl (v := .slice C cn cc) rfl HDe.out.o _ _ rfl (A := some ⟨wd.heap.size, 0, none⟩) (ys := [0, (q.length : Int)]) rfl (rd_two wd 0 (q.length : Int) _) (ok2 (by omega) (by omega)) (by simp only [List.length_cons, List.length_nil]; omega) HDe.out.ext.size ?_
          intro v4 w4 ho1 hg1 hat1
          obtain ⟨C4, n4, c4, rfl⟩ := ho1.shape3
          have HD4 := Lib.hid (HDe.out.app ho1 (Go1.app hg1 hat1))
          have hH2 := HD4.out.bp
          clear ho1 hg1 hat1 HDe
          refine hK.out _ _ hH2 (fun _ => ?_)
          clear hK K hHeld
          have hHeld := hH2
          clear hH2
          try simp only [Act.put, List.setIfInBounds_toArray, List.set_cons_zero, List.set_cons_succ]
          refine wpAnyH_ready (rs := [8]) (by kernel_rfl) (by simp) (AllReadyH.cons (o := ?oy558) ?hy558 (fun K hK => ?sy558) AllReadyH.nil)
          case hy558 => simp only [List.getElem?_toArray, List.getElem?_cons_zero, List.getElem?_cons_succ]; rfl
          refine stp_append rowByte rfl _ _ rfl (v := .slice C4 n4 c4) rfl HD4.out.o _ _ rfl (A := some ⟨g, o, none⟩) (ys := q.take q.length) (by simp only [List.length_take]; omega) (HD4.out.p.rd.2.2.2.2.head8 q.length (by omega)) (fun x hx => HQB.out x (List.mem_of_mem_take hx)) (by simp only [List.length_append, List.length_take, List.length_cons, List.length_nil]; omega) HD4.out.ext.size ?_
          intro v5 w5 ho1 hg1 hat1
          obtain ⟨C5, n5, c5, rfl⟩ := ho1.shape3
          have HD5 := Lib.hid (HD4.out.app ho1 (Go1.app hg1 hat1))
          have hH2 := HD5.out.bp
          clear ho1 hg1 hat1 HD4
          refine hK.out _ _ hH2 (fun _ => ?_)
          clear hK K hHeld
          have hHeld := hH2
          clear hH2
          try simp only [Act.put, List.setIfInBounds_toArray, List.set_cons_zero, List.set_cons_succ]
          refine wpAnyH_ready (rs := [9]) (by kernel_rfl) (by simp) (AllReadyH.cons (o := ?oy569) ?hy569 (fun K hK => ?sy569) AllReadyH.nil)
          case hy569 => simp only [List.getElem?_toArray, List.getElem?_cons_zero, List.getElem?_cons_succ]; rfl
          have s3 := HD5.out.bo.at_ 0 rfl
          have t3 := HD5.out.bo.free 0
          go_simp
          have HD6 := Lib.hid HD5.out.setO
          have hH2 := HD6.out.bp
          clear s3 t3
          refine hK.out _ _ hH2 (fun _ => ?_)
          clear hK K hHeld
          have hHeld := hH2
          clear hH2
          try simp only [Act.put, List.setIfInBounds_toArray, List.set_cons_zero, List.set_cons_succ]
          refine wpAnyH_done (by kernel_rfl) ?_ _
          clear hHeld
          generalize w5.setCell ⟨go, 0, none⟩ (.slice C5 n5 c5) = w6 at HD6 ⊢
          clear HD5
          have s4 := HD6.out.bp.at_ 0 rfl
          have t4 := HD6.out.bp.free 0
          have hc := HD6.out.p.cut q.length (by omega)
          rw [if_neg hcn] at hc
          rw [Nat.sub_self] at hc
          have HD7 := Lib.hid ((HD6.out.cutP hc rfl).setP)
          clear hc
          go_wp2_with fail
          go_roundw
          case rel => exact ⟨q.drop q.length, _, _, _, HD7.out, by rw [HF.out, HSTEP.out]; (try simp only [List.append_assoc]); (try rfl), by simp only [List.length_append, List.length_take, List.length_drop, List.length_cons, List.length_nil]; omega, by rw [List.length_drop]; omega⟩
          case measure =>
            have h7 := varLen_is HD7.out.bp
            rw [HVL.out]
            refine Nat.lt_of_le_of_lt (Nat.le_of_eq h7) ?_
            simp only [lenV]
            omega
end Go.Proofs.Yteegnbdgfedajaa
/- The program's number of bytes. No condition. -/
namespace Go.Proofs.Yteegnbdgfedajaa
open Go.RowKit
set_option linter.unusedVariables false
set_option linter.unusedSimpArgs false

set_option maxHeartbeats 1000000 in
set_option maxRecDepth 100000 in
theorem littleNumber_any (v : Value) (xs : List Int) (w : World) (S : Nat → Prop) (h : RdL tByte w S v xs) (hl : xs.length ≤ 7) :
    Calls Try.prog 84 #[v] w fun e w' => e = .returned (.int .u64 (littleN xs)) ∧ w = w' := by
  obtain ⟨A, cap, rfl, hcap, hlen, hrd, hok⟩ := h
  have Hrd := Lib.hid (show Rd w S 1 A xs.length (nums .u8 xs) by rw [← flat_bytes]; exact hrd)
  have Hok := Lib.hid hok
  clear hrd hok
  go_enter Try.func84, Try.ntmps84
  go_wp2
  go_loop [3, 8] (fun q i => ∃ k : Nat, k ≤ xs.length ∧ i = .int .i64 k ∧ q = .int .u64 (littleN (xs.take k))) (fun _ i => xs.length - (intOf i).toNat)
  case atStart => exact ⟨0, by omega, rfl, by simp [littleN]⟩
  case round =>
    obtain ⟨k, hk, rfl, rfl⟩ := hrel
    by_cases hlt : k < xs.length
    · obtain ⟨g, o, rfl, hs, hc⟩ := (Hrd.out).byte k hlt
      have hb := B8.get Hok.out k
      go_wp2
      go_round
      case rel => exact ⟨k + 1, by omega, by go_num, by rw [little_step xs Hok.out k hlt (by omega)]⟩
      case measure => simp [intOf]; omega
    · go_wp2
      go_ret
      obtain rfl : k = xs.length := by omega
      rw [List.take_length]
      exact ⟨rfl, rfl⟩

end Go.Proofs.Yteegnbdgfedajaa
/- Mixing of blocks into a state: the words. No condition. -/
namespace Go.Proofs.Yteegnbdgfedajaa
open Go.RowKit
set_option linter.unusedVariables false
set_option linter.unusedSimpArgs false

set_option maxHeartbeats 1000000 in
set_option maxRecDepth 100000 in
theorem l01Turn_7 (x : Int) (w : World) : Calls Try.prog 134 #[.int .u32 x, .int .u64 7] w fun e w' => e = .returned (.int .u32 (turn7 x)) ∧ w = w' := by
  unfold turn7
  go_enter Try.func134, Try.ntmps134
  go_wp2
  go_ret
  exact ⟨rfl, rfl⟩
set_option maxHeartbeats 1000000 in
set_option maxRecDepth 100000 in
theorem l01Turn_13 (x : Int) (w : World) : Calls Try.prog 134 #[.int .u32 x, .int .u64 13] w fun e w' => e = .returned (.int .u32 (turn13 x)) ∧ w = w' := by
  unfold turn13
  go_enter Try.func134, Try.ntmps134
  go_wp2
  go_ret
  exact ⟨rfl, rfl⟩
set_option maxHeartbeats 1000000 in
set_option maxRecDepth 100000 in
theorem rot_7 (x : Int) (w : World) : Calls Try.prog 135 #[.int .u32 x, .int .i64 7] w fun e w' => e = .returned (.int .u32 (turn7 x)) ∧ w = w' := by
  have hb : bits .and .u64 7 31 = 7 := by decide
  unfold turn7
  go_enter Try.func135, Try.ntmps135
  go_wp2
  go_ret
  exact ⟨rfl, rfl⟩
set_option maxHeartbeats 1000000 in
set_option maxRecDepth 100000 in
theorem rot_13 (x : Int) (w : World) : Calls Try.prog 135 #[.int .u32 x, .int .i64 13] w fun e w' => e = .returned (.int .u32 (turn13 x)) ∧ w = w' := by
  have hb : bits .and .u64 13 31 = 13 := by decide
  unfold turn13
  go_enter Try.func135, Try.ntmps135
  go_wp2
  go_ret
  exact ⟨rfl, rfl⟩
set_option maxHeartbeats 1000000 in
set_option maxRecDepth 100000 in
theorem l01Start_any (tag : Int) (h : 0 ≤ tag ∧ tag ≤ 255) (w : World) : Calls Try.prog 119 #[.int .u8 tag] w fun e w' => e = .returned (.agg (numsA .u32 (startL tag))) ∧ Ext w w' := by
  go_enter Try.func119, Try.ntmps119
  go_wp2
  go_loopw [4] (fun i wr => ∃ (k : Nat) (z : Array Value), k ≤ 8 ∧ i = .int .i64 k ∧ z.size = 8 ∧ Blk wr w.heap.size 155 z ∧ Blk wr (w.heap.size + 1) 155 (numsA .u32 ((List.range k).map (fun (i : Nat) => 16777619 * ((i : Int) + 1) + tag) ++ List.replicate (8 - k) 0)) ∧ Ext w wr) (fun i _ => 8 - (intOf i).toNat)
  case atStart => exact ⟨0, _, by omega, rfl, rfl, (Blk.new _ _ _).alloc _, Blk.new' (by simp) _ _, (ext_alloc _ _).alloc _⟩
  case round =>
    obtain ⟨k, z, hk, rfl, hz, hb1, hb2, hx⟩ := hrel
    have HX := Lib.hid hx
    have HB1 := Lib.hid hb1
    have HB2 := Lib.hid hb2
    clear hx hb1 hb2
    by_cases hlt : k < 8
    · have hc := HB2.out.num k (by simp; omega)
      have hf := HB2.out.free k
      go_wp2
      go_roundw
      case rel =>
        have h2 := HB2.out.set k (.int .u32 (16777619 * ((k : Int) + 1) + tag))
        rw [numsA_set, mapRange_set (fun (i : Nat) => 16777619 * ((i : Int) + 1) + tag) 8 k hlt] at h2
        exact ⟨k + 1, z, by omega, by go_num, hz, HB1.out.far (by simp) _, h2, HX.out.set (by simp) _⟩
      case measure => simp [intOf]; omega
    · obtain rfl : k = 8 := by omega
      have hb := HB2.out
      rw [Nat.sub_self, List.replicate_zero, List.append_nil] at hb
      have hst : (List.range 8).map (fun (i : Nat) => 16777619 * ((i : Int) + 1) + tag) = startL tag := by rw [startL]
      rw [hst] at hb
      have HB := Lib.hid hb
      clear hb hst
      go_wp2_with (first
        | (refine wpl_loadN HB.out aggU32 (startL_length tag) rfl _ rfl rfl ?_)
        | (refine wpl_storeN HB1.out aggU32 (startL_length tag) hz rfl _ _ rfl rfl rfl rfl ?_))
      refine bodyPost_ret (results_blk rfl _ rfl aggU32 (startL_length tag) (HB1.out.setRow _)) rfl ?_
      exact ⟨rfl, HX.out.setRow (Nat.le_refl _) _⟩
set_option maxHeartbeats 1000000 in
set_option maxRecDepth 100000 in
theorem startState_any (tag : Int) (h : 0 ≤ tag ∧ tag ≤ 255) (w : World) : Calls Try.prog 127 #[.int .u8 tag] w fun e w' => e = .returned (.agg (numsA .u32 (startL tag))) ∧ Ext w w' := by
  go_enter Try.func127, Try.ntmps127
  go_wp2
  go_loopw [6] (fun i wr => ∃ (k : Nat) (z : Array Value), k ≤ 8 ∧ i = .int .i64 k ∧ z.size = 8 ∧ Blk wr w.heap.size 155 z ∧ Blk wr (w.heap.size + 1) 155 (numsA .u32 ((List.range k).map (fun (i : Nat) => 16777619 * ((i : Int) + 1) + tag) ++ List.replicate (8 - k) 0)) ∧ Ext w wr) (fun i _ => 8 - (intOf i).toNat)
  case atStart => exact ⟨0, _, by omega, rfl, rfl, (Blk.new _ _ _).alloc _, Blk.new' (by simp) _ _, (ext_alloc _ _).alloc _⟩
  case round =>
    obtain ⟨k, z, hk, rfl, hz, hb1, hb2, hx⟩ := hrel
    have HX := Lib.hid hx
    have HB1 := Lib.hid hb1
    have HB2 := Lib.hid hb2
    clear hx hb1 hb2
    by_cases hlt : k < 8
    · have hc := HB2.out.num k (by simp; omega)
      have hf := HB2.out.free k
      go_wp2
      go_roundw
      case rel =>
        have h2 := HB2.out.set k (.int .u32 (16777619 * ((k : Int) + 1) + tag))
        rw [numsA_set, mapRange_set (fun (i : Nat) => 16777619 * ((i : Int) + 1) + tag) 8 k hlt] at h2
        exact ⟨k + 1, z, by omega, by go_num, hz, HB1.out.far (by simp) _, h2, HX.out.set (by simp) _⟩
      case measure => simp [intOf]; omega
    · obtain rfl : k = 8 := by omega
      have hb := HB2.out
      rw [Nat.sub_self, List.replicate_zero, List.append_nil] at hb
      have hst : (List.range 8).map (fun (i : Nat) => 16777619 * ((i : Int) + 1) + tag) = startL tag := by rw [startL]
      rw [hst] at hb
      have HB := Lib.hid hb
      clear hb hst
      go_wp2_with (first
        | (refine wpl_loadN HB.out aggU32 (startL_length tag) rfl _ rfl rfl ?_)
        | (refine wpl_storeN HB1.out aggU32 (startL_length tag) hz rfl _ _ rfl rfl rfl rfl ?_))
      refine bodyPost_ret (results_blk rfl _ rfl aggU32 (startL_length tag) (HB1.out.setRow _)) rfl ?_
      exact ⟨rfl, HX.out.setRow (Nat.le_refl _) _⟩

end Go.Proofs.Yteegnbdgfedajaa
/- The program's mixing of a block into a state. No condition. -/
namespace Go.Proofs.Yteegnbdgfedajaa
open Go.RowKit
set_option linter.unusedVariables false
set_option linter.unusedSimpArgs false

set_option maxHeartbeats 8000000 in
set_option maxRecDepth 100000 in
theorem mixBlock_any (st b : List Int) (hs : st.length = 8) (hu : U32 st) (hk : K32 b) (w : World) : Calls Try.prog 133 #[.agg (numsA .u32 st), .agg (numsA .u8 b)] w fun e w' => e = .returned (.agg (numsA .u32 (mixL st b))) ∧ Ext w w' := by
  have HU := Lib.hid hu
  have HK := Lib.hid hk
  have HS := Lib.hid hs
  clear hu hk hs
  go_enter Try.func133, Try.ntmps133
  go_wp2_with fail
  go_loopw [14] (fun i wr => ∃ (k : Nat) (z : Array Value), k ≤ 8 ∧ i = .int .i64 k ∧ z.size = 8 ∧ Blk wr w.heap.size 155 (numsA .u32 st) ∧ Blk wr (w.heap.size + 1) 39 (numsA .u8 b) ∧ Blk wr (w.heap.size + 2) 155 z ∧ Blk wr (w.heap.size + 3) 155 (numsA .u32 ((List.range k).map (word b) ++ List.replicate (8 - k) 0)) ∧ Ext w wr) (fun i _ => 8 - (intOf i).toNat)
  case atStart => exact ⟨0, _, by omega, rfl, rfl, ((((Blk.new _ _ _).alloc _).alloc _).alloc _), ((Blk.new' (by simp) _ _).alloc _).alloc _, (Blk.new' (by simp) _ _).alloc _, Blk.new' (by simp) _ _, (((ext_alloc _ _).alloc _).alloc _).alloc _⟩
  case round =>
    obtain ⟨k, z, hk, rfl, hz, hb1, hb2, hb3, hb4, hx⟩ := hrel
    have HX := Lib.hid hx
    have HB1 := Lib.hid hb1
    have HB2 := Lib.hid hb2
    have HB3 := Lib.hid hb3
    have HB4 := Lib.hid hb4
    clear hx hb1 hb2 hb3 hb4
    by_cases hlt : k < 8
    · have hl : ((List.range k).map (word b) ++ List.replicate (8 - k) 0).length = 8 := by simp; omega
      have hc := HB4.out.num k (by omega)
      have hf := HB4.out.free k
      have hN := mapRange_set (word b) 8 k hlt
      generalize (List.range k).map (word b) ++ List.replicate (8 - k) 0 = M at *
      have HN := Lib.hid hN
      clear hN
      have hw : 0 ≤ word b k ∧ word b k ≤ 4294967295 := by
        have h1 := littleN_bound ((b.drop (4 * k)).take 4) ((HK.out.2.drop _).take _)
        have h2 : ((b.drop (4 * k)).take 4).length = 4 := by simp [HK.out.1]; omega
        rw [h2] at h1
        unfold word
        omega
      have HLN := Lib.hid (littleNumber_any (.slice (some ⟨w.heap.size + 1, 4 * k, none⟩) 4 (32 - 4 * k)) ((b.drop (4 * k)).take 4) wr (fun _ => True) ⟨some ⟨w.heap.size + 1, 4 * k, none⟩, 32 - 4 * k, by simp [HK.out.1]; omega, by simp [HK.out.1]; omega, by simp; omega, by
        refine ⟨by rw [flat_bytes, nums_length]; exact (Nat.mul_one _).symm, fun _ => ⟨_, _, rfl, trivial, fun j u hu => ?_⟩⟩
        rw [flat_bytes] at hu
        rw [HB2.out.cell]
        have hj : j < 4 := by
          have := (List.getElem?_eq_some_iff.1 hu).1
          rw [nums_length, List.length_take] at this
          omega
        rw [← hu]
        simp [numsA, nums, List.getElem?_take, hj], (HK.out.2.drop _).take _⟩ (by simp; omega))
      have hwd : littleN ((b.drop (4 * k)).take 4) = word b k := by unfold word; rfl
      rw [hwd] at HLN
      clear hwd
      generalize word b k = W at *
      have hw0 := hw.1
      have hw1 := hw.2
      have e0 : IntKind.i64.wrap (4 * (k : Int)) = 4 * k := IntWalk.i64_in _ (by omega)
      have e1 : IntKind.i64.wrap (4 * (k : Int) + 4) = 4 * k + 4 := IntWalk.i64_in _ (by omega)
      have e2 : (4 * (k : Int) + 4).toNat = 4 * k + 4 := by omega
      have e3 : (4 * (k : Int)).toNat = 4 * k := by omega
      have e4 : ¬ 32 = 4 * k := by omega
      have e5 : 4 * k + 4 - 4 * k = 4 := by omega
      have A0 : (0 : Int) ≤ 4 * k := by omega
      have A1 : (4 * (k : Int)) ≤ 4 * k + 4 := by omega
      have A2 : (4 * (k : Int) + 4) ≤ 32 := by omega
      clear hw
      go_wp2_with (go_at_call 84; refine (HLN.out).mono ?_; rintro e w' ⟨rfl, rfl⟩)
      go_roundw
      case rel =>
        have h4 := HB4.out.set k (.int .u32 W)
        rw [numsA_set, HN.out] at h4
        exact ⟨k + 1, z, by omega, by go_num, hz, HB1.out.far (by simp; omega) _, HB2.out.far (by simp) _, HB3.out.far (by simp) _, h4, HX.out.set (by simp; omega) _⟩
      case measure => simp [intOf]; omega
    · obtain rfl : k = 8 := by omega
      go_wp2_with (first
        | (refine wpl_loadN HB1.out aggU32 HS.out rfl _ rfl rfl ?_)
        | (refine wpl_storeN (Blk.new wr _ _) aggU32 HS.out rfl rfl _ _ rfl rfl rfl rfl ?_))
      have h4 := HB4.out
      rw [Nat.sub_self, List.replicate_zero, List.append_nil, ← words_eq] at h4
      have h5 : Blk _ wr.heap.size 155 (numsA .u32 st) := (Blk.new wr 155 #[Value.int IntKind.u32 0, Value.int IntKind.u32 0, Value.int IntKind.u32 0, Value.int IntKind.u32 0, Value.int IntKind.u32 0, Value.int IntKind.u32 0, Value.int IntKind.u32 0, Value.int IntKind.u32 0]).setRow (numsA .u32 st)
      have lt4 := h4.lt
      have n1 : w.heap.size ≠ wr.heap.size := by omega
      have n3 : w.heap.size + 2 ≠ wr.heap.size := by omega
      have n4 : w.heap.size + 3 ≠ wr.heap.size := by omega
      have hgs : w.heap.size + 4 ≤ wr.heap.size := by omega
      have hx0 := (HX.out.alloc (.cells #[Value.int IntKind.u32 0, Value.int IntKind.u32 0, Value.int IntKind.u32 0, Value.int IntKind.u32 0, Value.int IntKind.u32 0, Value.int IntKind.u32 0, Value.int IntKind.u32 0, Value.int IntKind.u32 0] 155)).setRow HX.out.size (numsA .u32 st)
      have hb1 := (HB1.out.alloc (.cells #[Value.int IntKind.u32 0, Value.int IntKind.u32 0, Value.int IntKind.u32 0, Value.int IntKind.u32 0, Value.int IntKind.u32 0, Value.int IntKind.u32 0, Value.int IntKind.u32 0, Value.int IntKind.u32 0] 155)).row_far n1 (numsA .u32 st)
      have hb3 := (HB3.out.alloc (.cells #[Value.int IntKind.u32 0, Value.int IntKind.u32 0, Value.int IntKind.u32 0, Value.int IntKind.u32 0, Value.int IntKind.u32 0, Value.int IntKind.u32 0, Value.int IntKind.u32 0, Value.int IntKind.u32 0] 155)).row_far n3 (numsA .u32 st)
      have hb4 := (h4.alloc (.cells #[Value.int IntKind.u32 0, Value.int IntKind.u32 0, Value.int IntKind.u32 0, Value.int IntKind.u32 0, Value.int IntKind.u32 0, Value.int IntKind.u32 0, Value.int IntKind.u32 0, Value.int IntKind.u32 0] 155)).row_far n4 (numsA .u32 st)
      clear h4 lt4 HB1 HB2 HB3 HB4 HX n1 n3 n4
      generalize wr.heap.size = gs at *
      have HW := Lib.hid (words_eq b)
      go_loopw [29] (fun i wq => ∃ r : Nat, r ≤ 12 ∧ i = .int .i64 r ∧ Blk wq w.heap.size 155 (numsA .u32 st) ∧ Blk wq (w.heap.size + 2) 155 z ∧ Blk wq (w.heap.size + 3) 155 (numsA .u32 (words b)) ∧ Blk wq gs 155 (numsA .u32 (mixOut (words b) r st)) ∧ Ext w wq) (fun i _ => 12 - (intOf i).toNat)
      case atStart => exact ⟨0, by omega, rfl, hb1, hb3, hb4, by rw [mixOut_zero]; exact h5, hx0⟩
      case round =>
        clear hx0 hb1 hb3 hb4 h5
        obtain ⟨r, hr, rfl, hb1, hb3, hb4, hb5, hx⟩ := hrel
        have HX := Lib.hid hx
        have HB1 := Lib.hid hb1
        have HB3 := Lib.hid hb3
        have HB4 := Lib.hid hb4
        have HB5 := Lib.hid hb5
        clear hx hb1 hb3 hb4 hb5
        by_cases hlr : r < 12
        · go_wp2_with fail
          have hd12 : decide ((r : Int) < 12) = true := by simp; omega
          simp only [hd12]
          go_loopw [32] (fun i wq => ∃ k : Nat, k ≤ 8 ∧ i = .int .i64 k ∧ Blk wq w.heap.size 155 (numsA .u32 st) ∧ Blk wq (w.heap.size + 2) 155 z ∧ Blk wq (w.heap.size + 3) 155 (numsA .u32 (words b)) ∧ Blk wq gs 155 (numsA .u32 (mixIn (words b) r k (mixOut (words b) r st))) ∧ Ext w wq) (fun i _ => 8 - (intOf i).toNat)
          case atStart => exact ⟨0, by omega, rfl, HB1.out, HB3.out, HB4.out, by rw [mixIn_zero]; exact HB5.out, HX.out⟩
          case round =>
            clear HX HB1 HB3 HB4 HB5
            obtain ⟨k, hk, rfl, hb1, hb3, hb4, hb5, hx⟩ := hrel
            have HX := Lib.hid hx
            have HB1 := Lib.hid hb1
            have HB3 := Lib.hid hb3
            have HB4 := Lib.hid hb4
            have HB5 := Lib.hid hb5
            clear hx hb1 hb3 hb4 hb5
            by_cases hlk : k < 8
            · have hl := (mixIn_length (words b) r k (mixOut (words b) r st)).trans ((mixOut_length (words b) r st).trans HS.out)
              have hu := mixIn_ok (words b) r k _ (mixOut_ok (words b) r st HU.out)
              have HE := Lib.hid (mixIn_succ (words b) r k (mixOut (words b) r st))
              generalize mixIn (words b) r k (mixOut (words b) r st) = s at *
              have p1 : (k + 3 * r) % 8 < 8 := Nat.mod_lt _ (by decide)
              have p2 : (k + 1) % 8 < 8 := Nat.mod_lt _ (by decide)
              have p3 : (k + 5) % 8 < 8 := Nat.mod_lt _ (by decide)
              have c0 := HB5.out.num k (by omega)
              have c1 := HB4.out.num ((k + 3 * r) % 8) (by rw [words_length]; omega)
              have c2 := HB5.out.num ((k + 1) % 8) (by omega)
              have c3 := HB5.out.num ((k + 5) % 8) (by omega)
              have hf := HB5.out.free k
              have u0 := hu.get k
              have u2 := hu.get ((k + 1) % 8)
              have u3 := hu.get ((k + 5) % 8)
              have q1 : ((k : Int) + 3 * r) % 8 = (((k + 3 * r) % 8 : Nat) : Int) := by omega
              have q2 : ((k : Int) + 1) % 8 = (((k + 1) % 8 : Nat) : Int) := by omega
              have q3 : ((k : Int) + 5) % 8 = (((k + 5) % 8 : Nat) : Int) := by omega
              generalize hj1 : (k + 3 * r) % 8 = j1 at *
              generalize hj2 : (k + 1) % 8 = j2 at *
              generalize hj3 : (k + 5) % 8 = j3 at *
              have J1 := Lib.hid hj1
              have J2 := Lib.hid hj2
              have J3 := Lib.hid hj3
              clear hj1 hj2 hj3 hu
              go_wp2_with fail
              go_quiet (fail)
              replace c0 := (show (wr.drewN nq).cell? _ = _ from c0)
              replace c2 := (show (wr.drewN nq).cell? _ = _ from c2)
              replace c3 := (show (wr.drewN nq).cell? _ = _ from c3)
              replace hf := (show (wr.drewN nq).frozen? _ = _ from hf)
              replace HX := Lib.hid (HX.out.drewN nq)
              replace HB1 := Lib.hid (HB1.out.drewN nq)
              replace HB3 := Lib.hid (HB3.out.drewN nq)
              replace HB4 := Lib.hid (HB4.out.drewN nq)
              replace HB5 := Lib.hid (HB5.out.drewN nq)
              clear c1
              generalize wr.drewN nq = wx at *
              go_wp2_with fail
              go_quiet ((go_at_call 135; exact Calls.quiet_of ((rot_7 _ _).mono fun e w' ⟨he, hw⟩ => ⟨he, 0, hw.symm⟩)))
              go_wp2_with (go_at_call 135; refine (rot_13 _ _).mono ?_; rintro e w' ⟨rfl, rfl⟩)
              go_roundw
              case rel =>
                have h5 := (HB5.out.drewN nq).set k (.int .u32 ((bits .xor .u32 (turn7 ((gI s k + gI (words b) j1 + 2654435769 * (8 * (r : Int) + (k : Int) + 1)) % 4294967296)) (gI s j2) + turn13 (gI s j3)) % 4294967296))
                rw [numsA_set] at h5
                have he := HE.out
                unfold mixStep at he
                rw [J1.out, J2.out, J3.out] at he
                rw [← he] at h5
                exact ⟨k + 1, by omega, by go_num, (HB1.out.drewN _).far (by simp; omega) _, (HB3.out.drewN _).far (by simp; omega) _, (HB4.out.drewN _).far (by simp; omega) _, h5, (HX.out.drewN _).set (by simp; omega) _⟩
              case measure => simp [intOf]; omega
            · obtain rfl : k = 8 := by omega
              go_wp2_with fail
              go_roundw
              case rel => exact ⟨r + 1, by omega, by go_num, HB1.out, HB3.out, HB4.out, by rw [mixOut_succ]; exact HB5.out, HX.out⟩
              case measure => simp [intOf]; omega
        · obtain rfl : r = 12 := by omega
          go_wp2_with fail
          have HL := Lib.hid ((mixOut_length (words b) 12 st).trans HS.out)
          have HE := Lib.hid (show mixL st b = xorIn st 8 (mixOut (words b) 12 st) by rw [mixL])
          generalize mixOut (words b) 12 st = s at *
          go_loopw [74] (fun i wq => ∃ k : Nat, k ≤ 8 ∧ i = .int .i64 k ∧ Blk wq w.heap.size 155 (numsA .u32 st) ∧ Blk wq (w.heap.size + 2) 155 z ∧ Blk wq gs 155 (numsA .u32 (xorIn st k s)) ∧ Ext w wq) (fun i _ => 8 - (intOf i).toNat)
          case atStart => exact ⟨0, by omega, rfl, HB1.out, HB3.out, by rw [xorIn_zero]; exact HB5.out, HX.out⟩
          case round =>
            clear HX HB1 HB3 HB4 HB5
            obtain ⟨k, hk, rfl, hb1, hb3, hb5, hx⟩ := hrel
            have HX := Lib.hid hx
            have HB1 := Lib.hid hb1
            have HB3 := Lib.hid hb3
            have HB5 := Lib.hid hb5
            clear hx hb1 hb3 hb5
            have hl := (xorIn_length st k s).trans HL.out
            by_cases hlk : k < 8
            · have c0 := HB5.out.num k (by omega)
              have c1 := HB1.out.num k (by rw [HS.out]; omega)
              have hf := HB5.out.free k
              have HE2 := Lib.hid (xorIn_succ st k s)
              generalize xorIn st k s = s1 at *
              go_wp2_with fail
              go_region
              go_wp2_with fail
              go_roundw
              case rel =>
                have h5 := HB5.out.set k (.int .u32 (bits .xor .u32 (gI s1 k) (gI st k)))
                rw [numsA_set, ← HE2.out] at h5
                exact ⟨k + 1, by omega, by go_num, (HB1.out.far (by simp; omega) _).drewN 1, (HB3.out.far (by simp; omega) _).drewN 1, h5.drewN 1, (HX.out.set (by simp; omega) _).drew⟩
              case measure => simp [intOf]; omega
            · obtain rfl : k = 8 := by omega
              rw [← HE.out] at HB5 hl
              go_wp2_with (first
                | (refine wpl_loadN HB5.out aggU32 hl rfl _ rfl rfl ?_)
                | (refine wpl_storeN HB3.out aggU32 hl hz rfl _ _ rfl rfl rfl rfl ?_))
              refine bodyPost_ret (results_blk rfl _ rfl aggU32 hl (HB3.out.setRow _)) rfl ?_
              exact ⟨rfl, HX.out.setRow (by omega) _⟩

end Go.Proofs.Yteegnbdgfedajaa
/- Two slices of bytes put together. No condition. -/
namespace Go.Proofs.Yteegnbdgfedajaa
open Go.RowKit
set_option linter.unusedVariables false
set_option linter.unusedSimpArgs false

set_option maxHeartbeats 1000000 in
set_option maxRecDepth 100000 in
theorem grow_any (n : Nat) (h0 : 0 < n) (hn : n ≤ 70368744177664) (w : World) : Calls Try.prog 132 #[.slice none 0 0, .int .i64 n] w fun e w' => ∃ v', e = .returned v' ∧ Own tByte 5 w' w.heap.size v' [] ∧ Ext w w' := by
  obtain ⟨i, z, hi, hz, hs, hby, hzs⟩ := rowByte.info
  have hr := Lib.run_append_nil_zeros (P := Try.prog) w 22 3 22 5 i z .i64 .i64 rowByte.ht (by kernel_rfl) hi hz n h0 (by rw [hs]; decide) (by omega) (by rw [hby]; omega)
  have hc1 := grownCap_ge w n 0 5
  have hc2 := grownCap_le_maxLen w n 0 5 (by simp only [maxLen]; omega)
  generalize grownCap w n 0 5 = c at *
  obtain ⟨row, hrow⟩ : ∃ row, row = Builtin.zeroCells z.cells n ++ Builtin.zeroCells z.cells (c - n) := ⟨_, rfl⟩
  have hsz : row.size = c := by rw [hrow, Array.size_append, size_zeroCells, size_zeroCells, hzs]; show n * 1 + (c - n) * 1 = c; omega
  rw [← hrow] at hr
  clear hrow
  have HR := Lib.hid hr
  have HC := Lib.hid hc2
  clear hr hc2 hi hz hs hby hzs
  go_enter Try.func132, Try.ntmps132
  go_wp2_with (at_builtin; refine Lib.wpList_append_run _ rfl _ _ _ _ rfl _ _ rfl rfl _ _ HR.out ?_)
  go_ret
  exact ⟨_, rfl, ⟨⟨by simp, .inr ⟨w.heap.size, c, row, rfl, Nat.le_refl _, heap_alloc_new w _, Nat.zero_le _, HC.out, by show row.size = c * 1; omega, by simp⟩⟩, by simp, by simp⟩, (ext_alloc w _).drew⟩

set_option maxHeartbeats 1000000 in
set_option maxRecDepth 100000 in
theorem concat2_any (g o : Nat) (v u : Value) (xs ys : List Int) (w : World) (S S' : Nat → Prop) (h : RdL tByte w S v xs) (h' : RdL tByte w S' u ys) (h0 : 0 < xs.length + ys.length) (hn : xs.length + ys.length ≤ 70368744177664)
    (c0 : w.cell? ⟨g, o, none⟩ = some v) (c1 : w.cell? ⟨g, o + 1, none⟩ = some u) :
    Calls Try.prog 122 #[.slice (some ⟨g, o, none⟩) 2 2] w fun e w' => ∃ v', e = .returned v' ∧ Own tByte 5 w' w.heap.size v' (xs ++ ys) ∧ Ext w w' := by
  have H := Lib.hid h
  have H' := Lib.hid h'
  obtain ⟨A, cap, rfl, hcap, hlen, _⟩ := h
  obtain ⟨A', cap', rfl, hcap', hlen', _⟩ := h'
  go_enter Try.func122, Try.ntmps122
  go_wp2_with fail
  go_loop [3, 11] (fun s i => (i = .int .i64 0 ∧ s = .int .i64 0) ∨ (i = .int .i64 1 ∧ s = .int .i64 xs.length) ∨ (i = .int .i64 2 ∧ s = .int .i64 (xs.length + ys.length : Nat))) (fun _ i => 2 - (intOf i).toNat)
  case atStart => exact .inl ⟨rfl, rfl⟩
  case round =>
    rcases hrel with ⟨rfl, rfl⟩ | ⟨rfl, rfl⟩ | ⟨rfl, rfl⟩
    · go_wp2_with fail
      go_round
      case rel => exact .inr (.inl ⟨rfl, rfl⟩)
      case measure => simp [intOf]
    · go_wp2_with fail
      go_round
      case rel => exact .inr (.inr ⟨rfl, by go_num⟩)
      case measure => simp [intOf]
    · have G := grow_any (xs.length + ys.length) h0 hn w
      have HG := Lib.hid G
      clear G
      go_wp2_with fail
      refine HG.out.mono ?_
      rintro e w1 ⟨v1, rfl, ho, hx⟩
      have HO := Lib.hid ho
      have HX := Lib.hid hx
      have c0' := hx.cell c0
      have c1' := hx.cell c1
      clear ho hx
      go_wp2_with fail
      go_loopw [6, 27] (fun v i wr => Ext w wr ∧ ((i = .int .i64 0 ∧ Own tByte 5 wr w.heap.size v []) ∨ (i = .int .i64 1 ∧ Own tByte 5 wr w.heap.size v xs) ∨ (i = .int .i64 2 ∧ Own tByte 5 wr w.heap.size v (xs ++ ys)))) (fun _ i _ => 2 - (intOf i).toNat)
      case atStart => exact ⟨HX.out, .inl ⟨rfl, HO.out⟩⟩
      case round =>
        clear HO HX c0' c1'
        obtain ⟨hx, hr⟩ := hrel
        have HX := Lib.hid hx
        have d0 := hx.cell c0
        have d1 := hx.cell c1
        clear hx
        rcases hr with ⟨rfl, ho⟩ | ⟨rfl, ho⟩ | ⟨rfl, ho⟩
        · obtain ⟨B, bn, bc, rfl⟩ := ho.shape3
          have HO := Lib.hid ho
          have hr := H.out.ext (by decide) HX.out
          obtain ⟨A2, cap2, he, _, _, hr1, hok1⟩ := hr
          injection he with e1 e2 e3
          subst e1 e3
          have HR := Lib.hid hr1
          have HK := Lib.hid hok1
          clear ho hr1 hok1
          go_wp2_with (at_builtin; refine wpl_append rowByte rfl _ _ rfl (v := .slice B bn bc) rfl HO.out _ _ rfl (ys := xs) (A := A) (S := S) rfl HR.out HK.out (by simp; omega) HX.out.size ?_; intro v1 w1 ho1 hg1 hat1; have HO1 := Lib.hid ho1; have HX1 := Lib.hid (HO.out.ext_app HX.out hg1); clear ho1 hg1 hat1)
          go_roundw
          case rel => exact ⟨HX1.out, .inr (.inl ⟨rfl, HO1.out⟩)⟩
          case measure => simp [intOf]
        · obtain ⟨B, bn, bc, rfl⟩ := ho.shape3
          have HO := Lib.hid ho
          have hr := H'.out.ext (by decide) HX.out
          obtain ⟨A2, cap2, he, _, _, hr1, hok1⟩ := hr
          injection he with e1 e2 e3
          subst e1 e3
          have HR := Lib.hid hr1
          have HK := Lib.hid hok1
          clear ho hr1 hok1
          go_wp2_with (at_builtin; refine wpl_append rowByte rfl _ _ rfl (v := .slice B bn bc) rfl HO.out _ _ rfl (ys := ys) (A := A') (S := S') rfl HR.out HK.out (by omega) HX.out.size ?_; intro v1 w1 ho1 hg1 hat1; have HO1 := Lib.hid ho1; have HX1 := Lib.hid (HO.out.ext_app HX.out hg1); clear ho1 hg1 hat1)
          go_roundw
          case rel => exact ⟨HX1.out, .inr (.inr ⟨rfl, HO1.out⟩)⟩
          case measure => simp [intOf]
        · have HO := Lib.hid ho
          clear ho
          go_wp2_with fail
          go_ret
          exact ⟨_, rfl, HO.out, HX.out⟩

end Go.Proofs.Yteegnbdgfedajaa
/- The program's key of bytes: the parts. No condition. -/
namespace Go.Proofs.Yteegnbdgfedajaa
open Go.RowKit
set_option linter.unusedVariables false
set_option linter.unusedSimpArgs false

set_option maxHeartbeats 1000000 in
set_option maxRecDepth 100000 in
theorem appendLittle_any (v : Value) (ys : List Int) (n : Int) (c : Nat) (w w0 : World) (h : Own tByte 5 w w0.heap.size v ys) (hx : Ext w0 w) (hn : 0 ≤ n ∧ n ≤ 18446744073709551615) (hc : c ≤ 8) (hl : ys.length ≤ 70368744177664) :
    Calls Try.prog 80 #[v, .int .u64 n, .int .i64 c] w fun e w' => ∃ v', e = .returned v' ∧ Own tByte 5 w' w0.heap.size v' (ys ++ bytesLE n c) ∧ Ext w0 w' := by
  obtain ⟨B, bn, bc, rfl⟩ := h.shape3
  have HO := Lib.hid h
  have HX := Lib.hid hx
  clear h hx
  go_enter Try.func80, Try.ntmps80
  go_wp2_with fail
  go_loopw [0, 9] (fun o i wr => ∃ k : Nat, k ≤ c ∧ i = .int .i64 k ∧ Own tByte 5 wr w0.heap.size o (ys ++ bytesLE n k) ∧ Ext w0 wr) (fun _ i _ => c - (intOf i).toNat)
  case atStart => exact ⟨0, by omega, rfl, by rw [bytesLE_zero, List.append_nil]; exact HO.out, HX.out⟩
  case round =>
    clear HO HX
    obtain ⟨k, hk, rfl, ho, hx⟩ := hrel
    have HO := Lib.hid ho
    have HX := Lib.hid hx
    obtain ⟨C, cn, cc, rfl⟩ := ho.shape3
    clear ho hx
    by_cases hlt : k < c
    · have hs2 := bytesLE_succ n k
      rw [pow256] at hs2
      have HS2 := Lib.hid hs2
      clear hs2
      go_wp2_with (at_builtin; refine wpl_append rowByte rfl _ _ rfl (v := .slice C cn cc) rfl (HO.out.alloc _) _ _ rfl (A := some ⟨wr.heap.size, 0, none⟩) (ys := [n / 2 ^ (8 * k) % 256]) rfl (rd_byte wr (n / 2 ^ (8 * k) % 256) (by omega) _) (okOne (by omega)) (by simp [bytesLE_length]; omega) (HX.out.alloc _).size ?_; intro v9 w9 ho1 hg1 hat1; have HX9 := Lib.hid ((HO.out.alloc _).ext_app (HX.out.alloc _) hg1); have HO9 := Lib.hid ho1; clear ho1 hg1 hat1)
      go_roundw
      case rel => exact ⟨k + 1, by omega, by go_num, by rw [HS2.out, ← List.append_assoc]; exact HO9.out, HX9.out⟩
      case measure => simp [intOf]; omega
    · obtain rfl : k = c := by omega
      go_wp2_with fail
      go_ret
      exact ⟨_, rfl, HO.out, HX.out⟩

end Go.Proofs.Yteegnbdgfedajaa
/- The program of a delta: the program. No condition. -/
namespace Go.Proofs.Yteegnbdgfedajaa
open Go.RowKit
set_option linter.unusedVariables false
set_option linter.unusedSimpArgs false

set_option maxHeartbeats 1000000 in
set_option maxRecDepth 100000 in
theorem appendLittle_g (v : Value) (ys : List Int) (n : Int) (c : Nat) (w : World) (b : Nat) (h : Own tByte 5 w b v ys) (hb : b ≤ w.heap.size) (hn : 0 ≤ n ∧ n ≤ 18446744073709551615) (hc : c ≤ 8) (hl : ys.length ≤ 70368744177664) :
    Calls Try.prog 80 #[v, .int .u64 n, .int .i64 c] w fun e w' => ∃ v', e = .returned v' ∧ Own tByte 5 w' b v' (ys ++ bytesLE n c) ∧ Go1 w w' v v' := by
  obtain ⟨B, bn, bc, rfl⟩ := h.shape3
  have HO := Lib.hid h
  clear h
  go_enter Try.func80, Try.ntmps80
  go_wp2_with fail
  go_loopw [0, 9] (fun o i wr => ∃ k : Nat, k ≤ c ∧ i = .int .i64 k ∧ Own tByte 5 wr b o (ys ++ bytesLE n k) ∧ Go1 w wr (.slice B bn bc) o) (fun _ i _ => c - (intOf i).toNat)
  case atStart => exact ⟨0, by omega, rfl, by rw [bytesLE_zero, List.append_nil]; exact HO.out, Go1.refl _ _⟩
  case round =>
    clear HO
    obtain ⟨k, hk, rfl, ho, hx⟩ := hrel
    have HO := Lib.hid ho
    have HX := Lib.hid hx
    have hbs : b ≤ wr.heap.size := Nat.le_trans hb hx.g.size
    obtain ⟨C, cn, cc, rfl⟩ := ho.shape3
    clear ho hx
    by_cases hlt : k < c
    · have hs2 := bytesLE_succ n k
      rw [pow256] at hs2
      have HS2 := Lib.hid hs2
      clear hs2
      go_wp2_with (at_builtin; refine wpl_append rowByte rfl _ _ rfl (v := .slice C cn cc) rfl (HO.out.alloc _) _ _ rfl (A := some ⟨wr.heap.size, 0, none⟩) (ys := [n / 2 ^ (8 * k) % 256]) rfl (rd_byte wr (n / 2 ^ (8 * k) % 256) (by omega) _) (okOne (by omega)) (by simp [bytesLE_length]; omega) (by simp; omega) ?_; intro v9 w9 ho1 hg1 hat1; have HX9 := Lib.hid (HX.out.trans ((Go1.ext (ext_alloc _ _) rfl).trans (Go1.app hg1 hat1))); have HO9 := Lib.hid ho1; clear ho1 hg1 hat1)
      go_roundw
      case rel => exact ⟨k + 1, by omega, by go_num, by rw [HS2.out, ← List.append_assoc]; exact HO9.out, HX9.out⟩
      case measure => simp [intOf]; omega
    · obtain rfl : k = c := by omega
      go_wp2_with fail
      go_ret
      exact ⟨_, rfl, HO.out, HX.out⟩
theorem stp_appendT {ops : Array Oper} {o : Oper} {a : Act} {w : World} {K : Act → World → Prop} {Q : Exit → Act → World → Prop} {E : Prop} (hgd : o.guard = none) (s y : Operand)
    (hop : o.op = .call { callee := .builtin .append, args := #[s, y], argTypes := #[22, 22] })
    {base : Nat} {v : Value} {xs : List Int} (hs : a.eval s = v) (ho : OwnT w base v xs) (x : Int) (hx : 0 ≤ x ∧ x ≤ 255) {ad : Addr} (hy : a.eval y = .slice (some ad) 1 1) (hc : w.cell? ad = some (.int .u8 x)) (hl : xs.length + 1 ≤ 140737488355328) (hb : base ≤ w.heap.size)
    (h : ∀ v' w', OwnT w' base v' (xs ++ [x]) → w.grownBy w' v.ownBlock → (v'.ownBlock = v.ownBlock ∨ v'.ownBlock = some w.heap.size) → K (a.put o.dst v') w') :
    if Region.wanted o (yielded ops a.tmps) = true then Oper.wp Try.prog o a w K Q else E := by
  obtain ⟨v', w', hrun, h1, h2, h3⟩ := run_appendT ho o.type x hx hc hl hb
  have hw : Region.wanted o (yielded ops a.tmps) = true := by simp [Region.wanted, hgd]
  rw [if_pos hw]
  unfold Oper.wp execOp
  simp only [hop, resolve, invoke, builtin, Sem.run_bind, Sem.run_pure, Result.andThen_ok, List.map_toArray, List.map_cons, List.map_nil, hs, hy, hrun]
  exact h v' w' h1 h2 h3
theorem OwnT.shape3 {w : World} {base : Nat} {v : Value} {xs : List Int} (h : OwnT w base v xs) : ∃ A n cap, v = .slice A n cap := by
  obtain ⟨g, o, cap, rfl⟩ := h.shape
  exact ⟨_, _, _, rfl⟩
/-- the state at the beginning -/
theorem dst_start (w : World) : DSt w ((((((w.alloc (.cells #[] 5)).alloc (.cells #[] 5)).alloc (.cells #[.slice (some ⟨w.heap.size, 0, none⟩) 0 0] 22)).alloc (.cells #[.slice (some ⟨w.heap.size + 1, 0, none⟩) 0 0] 22)))) (w.heap.size + 1 + 1 + 1) (w.heap.size + 1 + 1)
    (.slice (some ⟨w.heap.size + 1, 0, none⟩) 0 0) (.slice (some ⟨w.heap.size + 1, 0, none⟩) 0 0) (.slice (some ⟨w.heap.size, 0, none⟩) 0 0) (.slice (some ⟨w.heap.size, 0, none⟩) 0 0) [] [] := by
  refine ⟨(((ext_alloc _ _).alloc _).alloc _).alloc _, Blk.new' (by simp) _ _, (Blk.new' (by simp) _ _).alloc _, ⟨w.heap.size + 1, 0, 0, #[], rfl, by omega, ((Blk.new' (by simp) _ _).alloc _).alloc _, Nat.le_refl _, by decide, by simp, by simp [nums], fun x h => by simp at h⟩, (((Own.empty tByte w 5 w.heap.size (Nat.le_refl _)).alloc _).alloc _).alloc _, by simp [Value.ownBlock], by omega, by omega, by omega⟩
set_option maxHeartbeats 16000000 in
set_option maxRecDepth 100000 in
theorem delta_any (v u : Value) (B D : List Int) (w : World) (S S' : Nat → Prop) (h : RdL tByte w S v B) (h' : RdL tByte w S' u D) (hBl : B.length ≤ 1024) (hDl : D.length ≤ 1024) :
    Calls Try.prog 44 #[v, u] w fun e w' => ∃ v', e = .returned v' ∧ Own tByte 5 w' w.heap.size v' (dltL B D) ∧ Ext w w' := by
  obtain ⟨A, cap, rfl, hcap, hlen, hrd, hok⟩ := h
  obtain ⟨A', cap', rfl, hcap', hlen', hrd', hok'⟩ := h'
  have Hrd := Lib.hid (show Rd w S 1 A B.length (nums .u8 B) by rw [← flat_bytes]; exact hrd)
  have Hrd' := Lib.hid (show Rd w S' 1 A' D.length (nums .u8 D) by rw [← flat_bytes]; exact hrd')
  have Hok := Lib.hid (show B8 B from hok)
  have Hok' := Lib.hid (show B8 D from hok')
  clear hrd hrd' hok hok'
  go_enter Try.func44, Try.ntmps44
  go_wp2_with fail
  go_loopw [8] (fun i wr => ∃ (k : Nat) (O H : List Int) (f : Nat) (vP vO : Value), k ≤ D.length ∧ i = .int .i64 k ∧ dltL B D = dlt B f (D.drop k) H O ∧ D.length - k ≤ f ∧ O.length + 3 * H.length ≤ 4 * k ∧ H.length ≤ k ∧ DSt w wr (w.heap.size + 1 + 1 + 1) (w.heap.size + 1 + 1) vP vP vO vO H O) (fun i _ => D.length - (intOf i).toNat)
  case atStart => exact ⟨0, [], [], D.length, _, _, by omega, rfl, rfl, by omega, by decide, by decide, dst_start w⟩
  case round =>
    obtain ⟨k, O, H, f, vP, vO, hk, rfl, hF, hf, hol, hHk, hDS⟩ := hrel
    obtain ⟨wo, hwo⟩ : ∃ wo, wo = wr := ⟨_, rfl⟩
    subst hwo
    obtain ⟨P1, pn, pc, rfl⟩ := hDS.p.shape3
    obtain ⟨O1, on, oc, rfl⟩ := hDS.o.shape3
    have HF := Lib.hid hF
    have HD := Lib.hid hDS
    clear hF hDS
    by_cases hlt : k < D.length
    rotate_left
    · obtain rfl : k = D.length := by omega
      have hend := HF.out
      rw [List.drop_length, dlt_end] at hend
      have HE := Lib.hid hend
      have HP := Lib.hid (flush_any w wo _ _ _ _ H O HD.out (by omega) (by omega))
      clear hend
      go_wp2_with fail
      refine HP.out.mono ?_
      rintro e w1 ⟨vP1, vO1, rfl, hD1⟩
      obtain ⟨O2, on2, oc2, rfl⟩ := hD1.o.shape3
      rw [← HE.out] at hD1
      have HD1 := Lib.hid hD1
      have d1 := hD1.bo.at_ 0 rfl
      clear hD1
      go_wp2_with fail
      go_ret
      exact ⟨_, rfl, HD1.out.o, HD1.out.ext⟩
    obtain ⟨f, rfl⟩ : ∃ f', f = f' + 1 := ⟨f - 1, by omega⟩
    obtain ⟨g', o', rfl, hs', hcd⟩ := (Hrd'.out).byte k hlt
    clear hcd
    have HCD := Lib.hid (show ∀ q, q < D.length → ∀ W, Ext w W → W.cell? ⟨g', o' + q, none⟩ = some (.int .u8 (gI D q)) from fun q hq W hW => by
      obtain ⟨g9, o9, e9, _, hc9⟩ := (Hrd'.out).byte q hq
      injection e9 with e9
      injection e9 with e8 e7
      subst e8 e7
      exact hW.cell hc9)
    have hi1 : (0 : Int) ≤ (k : Int) := by omega
    have hi3 : (k : Int) < (D.length : Int) := by omega
    go_wp2_with fail
    go_loopw [9, 10, 22] (fun pl b i w2 => ∃ j : Nat, j ≤ B.length ∧ i = .int .i64 j ∧ b = .int .i64 ((bestK B (D.drop k) j).2 : Nat) ∧ pl = .int .i64 ((bestK B (D.drop k) j).1 : Nat) ∧ Drawn wo w2) (fun _ _ i _ => B.length - (intOf i).toNat)
    case atStart => exact ⟨0, by omega, rfl, rfl, rfl, Drawn.refl _⟩
    case round =>
      obtain ⟨j, hj, rfl, rfl, rfl, hD2⟩ := hrel
      obtain ⟨wi, hwi⟩ : ∃ wi, wi = wr := ⟨_, rfl⟩
      subst hwi
      have HD2 := Lib.hid hD2
      clear hD2
      by_cases hltj : j < B.length
      · obtain ⟨g, o, hA, hs, hc0⟩ := (Hrd.out).byte j hltj
        subst hA
        clear hc0
        have HCB := Lib.hid (show ∀ q, q < B.length → ∀ W, Ext w W → W.cell? ⟨g, o + q, none⟩ = some (.int .u8 (gI B q)) from fun q hq W hW => by
          obtain ⟨g9, o9, e9, _, hc9⟩ := (Hrd.out).byte q hq
          injection e9 with e9
          injection e9 with e8 e7
          subst e8 e7
          exact hW.cell hc9)
        have HBK := Lib.hid (show bestK B (D.drop k) (j + 1) = if (bestK B (D.drop k) j).2 < mat 255 (B.drop j) (D.drop k) then (j, mat 255 (B.drop j) (D.drop k)) else bestK B (D.drop k) j from rfl)
        have HMT := Lib.hid (fun n h1 h2 h3 h4 h5 => mat_is 255 (B.drop j) (D.drop k) n h1 h2 h3 h4 h5)
        generalize mat 255 (B.drop j) (D.drop k) = m at HBK HMT
        generalize bestK B (D.drop k) j = q at HBK ⊢
        obtain ⟨q1, q2⟩ := q
        dsimp only at HBK ⊢
        have hj1 : (0 : Int) ≤ (j : Int) := by omega
        have hj3 : (j : Int) < (B.length : Int) := by omega
        go_wp2_with fail
        go_loopw [12] (fun i w3 => ∃ n : Nat, n ≤ 255 ∧ j + n ≤ B.length ∧ k + n ≤ D.length ∧ i = .int .i64 n ∧ (∀ r, r < n → gI B (j + r) = gI D (k + r)) ∧ Drawn wi w3) (fun i _ => 255 - (intOf i).toNat)
        case atStart => exact ⟨0, by omega, by omega, by omega, rfl, fun r hr => by omega, Drawn.refl _⟩
        case round =>
          obtain ⟨n, hn, hnB, hnD, rfl, hm, hD3⟩ := hrel
          have HM := Lib.hid hm
          have HD3 := Lib.hid hD3
          clear hm hD3
          have HE := Lib.hid (show (n = 255 ∨ j + n = B.length ∨ k + n = D.length ∨ gI B (j + n) ≠ gI D (k + n)) → m = n from fun h => HMT.out n hn (by rw [List.length_drop]; omega) (by rw [List.length_drop]; omega) (fun r hr => by rw [gI_drop, gI_drop]; exact HM.out r hr) (by rw [List.length_drop, List.length_drop, gI_drop, gI_drop]; rcases h with h | h | h | h; exact .inl h; exact .inr (.inl (by omega)); exact .inr (.inr (.inl (by omega))); exact .inr (.inr (.inr h))))
          have e1 : (j : Int) + (n : Int) = ((j + n : Nat) : Int) := by omega
          have e2 : (k : Int) + (n : Int) = ((k + n : Nat) : Int) := by omega
          have w1 : IntKind.i64.wrap ((j : Int) + (n : Int)) = (j : Int) + (n : Int) := IntWalk.i64_in _ (by omega)
          have w2 : IntKind.i64.wrap ((k : Int) + (n : Int)) = (k : Int) + (n : Int) := IntWalk.i64_in _ (by omega)
          by_cases h1 : n < 255
          rotate_left
          · skip
            have c1 : decide ((n : Int) < 255) = false := by rw [decide_eq_false_iff_not]; omega
            have HR := Lib.hid (HE.out (.inl (by omega)))
            clear HE HMT e1 e2
            by_cases hm : q2 < n
            · have HB1 := Lib.hid (show bestK B (D.drop k) (j + 1) = (j, n) by rw [HBK.out, HR.out, if_pos hm])
              have hmI : (q2 : Int) < (n : Int) := by omega
              go_wp2_with fail
              go_quiet (fail)
              go_wp2_with fail
              go_roundw
              case rel => exact ⟨j + 1, by omega, by go_num, by rw [HB1.out], by rw [HB1.out], HD2.out.trans (HD3.out.drewN _)⟩
              case measure => simp [intOf]; omega
            · have HB1 := Lib.hid (show bestK B (D.drop k) (j + 1) = (q1, q2) by rw [HBK.out, HR.out, if_neg hm])
              have hmI : ¬ (q2 : Int) < (n : Int) := by omega
              go_wp2_with fail
              go_quiet (fail)
              go_wp2_with fail
              go_roundw
              case rel => exact ⟨j + 1, by omega, by go_num, by rw [HB1.out], by rw [HB1.out], HD2.out.trans (HD3.out.drewN _)⟩
              case measure => simp [intOf]; omega
          have c1 : decide ((n : Int) < 255) = true := by rw [decide_eq_true_iff]; omega
          by_cases h2 : j + n < B.length
          rotate_left
          · skip
            have c2 : decide ((j : Int) + (n : Int) < (B.length : Int)) = false := by rw [decide_eq_false_iff_not]; omega
            have HR := Lib.hid (HE.out (.inr (.inl (by omega))))
            clear HE HMT e1 e2
            by_cases hm : q2 < n
            · have HB1 := Lib.hid (show bestK B (D.drop k) (j + 1) = (j, n) by rw [HBK.out, HR.out, if_pos hm])
              have hmI : (q2 : Int) < (n : Int) := by omega
              go_wp2_with fail
              go_quiet (fail)
              go_wp2_with fail
              go_roundw
              case rel => exact ⟨j + 1, by omega, by go_num, by rw [HB1.out], by rw [HB1.out], HD2.out.trans (HD3.out.drewN _)⟩
              case measure => simp [intOf]; omega
            · have HB1 := Lib.hid (show bestK B (D.drop k) (j + 1) = (q1, q2) by rw [HBK.out, HR.out, if_neg hm])
              have hmI : ¬ (q2 : Int) < (n : Int) := by omega
              go_wp2_with fail
              go_quiet (fail)
              go_wp2_with fail
              go_roundw
              case rel => exact ⟨j + 1, by omega, by go_num, by rw [HB1.out], by rw [HB1.out], HD2.out.trans (HD3.out.drewN _)⟩
              case measure => simp [intOf]; omega
          have c2 : decide ((j : Int) + (n : Int) < (B.length : Int)) = true := by rw [decide_eq_true_iff]; omega
          by_cases h3 : k + n < D.length
          rotate_left
          · skip
            have c3 : decide ((k : Int) + (n : Int) < (D.length : Int)) = false := by rw [decide_eq_false_iff_not]; omega
            have HR := Lib.hid (HE.out (.inr (.inr (.inl (by omega)))))
            clear HE HMT e1 e2
            by_cases hm : q2 < n
            · have HB1 := Lib.hid (show bestK B (D.drop k) (j + 1) = (j, n) by rw [HBK.out, HR.out, if_pos hm])
              have hmI : (q2 : Int) < (n : Int) := by omega
              go_wp2_with fail
              go_quiet (fail)
              go_wp2_with fail
              go_roundw
              case rel => exact ⟨j + 1, by omega, by go_num, by rw [HB1.out], by rw [HB1.out], HD2.out.trans (HD3.out.drewN _)⟩
              case measure => simp [intOf]; omega
            · have HB1 := Lib.hid (show bestK B (D.drop k) (j + 1) = (q1, q2) by rw [HBK.out, HR.out, if_neg hm])
              have hmI : ¬ (q2 : Int) < (n : Int) := by omega
              go_wp2_with fail
              go_quiet (fail)
              go_wp2_with fail
              go_roundw
              case rel => exact ⟨j + 1, by omega, by go_num, by rw [HB1.out], by rw [HB1.out], HD2.out.trans (HD3.out.drewN _)⟩
              case measure => simp [intOf]; omega
          have c3 : decide ((k : Int) + (n : Int) < (D.length : Int)) = true := by rw [decide_eq_true_iff]; omega
          have c2' : (j : Int) + (n : Int) < (B.length : Int) := by omega
          have c3' : (k : Int) + (n : Int) < (D.length : Int) := by omega
          have hd := HCB.out (j + n) h2 _ (HD.out.ext.trans (HD2.out.trans HD3.out).ext)
          have hd' := HCD.out (k + n) h3 _ (HD.out.ext.trans (HD2.out.trans HD3.out).ext)
          have p1 : (0 : Int) ≤ (j : Int) + (n : Int) := by omega
          have p2 : (0 : Int) ≤ (k : Int) + (n : Int) := by omega
          have t1 : ((j : Int) + (n : Int)).toNat = j + n := by omega
          have t2 : ((k : Int) + (n : Int)).toNat = k + n := by omega
          by_cases he : gI B (j + n) = gI D (k + n)
          rotate_left
          · skip
            have heq : (gI B (j + n) == gI D (k + n)) = false := by simpa using he
            have HR := Lib.hid (HE.out (.inr (.inr (.inr he))))
            clear HE HMT e1 e2
            by_cases hm : q2 < n
            · have HB1 := Lib.hid (show bestK B (D.drop k) (j + 1) = (j, n) by rw [HBK.out, HR.out, if_pos hm])
              have hmI : (q2 : Int) < (n : Int) := by omega
              go_wp2_with fail
              go_quiet (fail)
              go_wp2_with fail
              go_roundw
              case rel => exact ⟨j + 1, by omega, by go_num, by rw [HB1.out], by rw [HB1.out], HD2.out.trans (HD3.out.drewN _)⟩
              case measure => simp [intOf]; omega
            · have HB1 := Lib.hid (show bestK B (D.drop k) (j + 1) = (q1, q2) by rw [HBK.out, HR.out, if_neg hm])
              have hmI : ¬ (q2 : Int) < (n : Int) := by omega
              go_wp2_with fail
              go_quiet (fail)
              go_wp2_with fail
              go_roundw
              case rel => exact ⟨j + 1, by omega, by go_num, by rw [HB1.out], by rw [HB1.out], HD2.out.trans (HD3.out.drewN _)⟩
              case measure => simp [intOf]; omega
          have He := Lib.hid he
          have heq : (gI B (j + n) == gI D (k + n)) = true := by simpa using he
          clear he HE HMT e1 e2
          go_wp2_with fail
          go_quiet (fail)
          go_wp2_with fail
          go_roundw
          case rel => exact ⟨n + 1, by omega, by omega, by omega, by go_num, fun r hr => by
            by_cases e : r = n
            · subst e; exact He.out
            · exact HM.out r (by omega), HD3.out.drewN _⟩
          case measure => simp [intOf]; omega
      · obtain rfl : j = B.length := by omega
        have hbo := bestK_ok B (D.drop k) B.length (Nat.le_refl _)
        have HHD := Lib.hid (fun hb => dlt_hold B f (D.drop k) H O (by simp; omega) hb)
        have HCP := Lib.hid (fun hb => dlt_copy B f (D.drop k) H O (by simp; omega) hb)
        have hml := fun i => mat_le 255 (B.drop i) (D.drop k)
        generalize bestK B (D.drop k) B.length = q at hbo HHD HCP ⊢
        obtain ⟨p, m⟩ := q
        dsimp only at hbo HHD HCP ⊢
        have hpm : p ≤ B.length ∧ m ≤ 255 ∧ m ≤ D.length - k := by
          have h1 := hml p
          rw [List.length_drop, List.length_drop] at h1
          rcases hbo with h | h
          · omega
          · omega
        clear hbo hml
        have HD1 := Lib.hid (HD.out.on HD2.out.ext)
        have hd255 := B8.get Hok'.out k
        by_cases h8 : m < 8
        · have HST := Lib.hid (HHD.out h8)
          have h8I : (m : Int) < 8 := by omega
          clear HHD HCP
          go_wp2_with fail
          refine wp_region_held_drew (S := fun W => Ext w W) (by kernel_rfl) HD1.out.ext.drew (fun hHeld => ?_)
          have HDd := Lib.hid (HD1.out.on (Ext.refl _).drew)
          generalize World.drew wi = wd at hHeld HDd ⊢
          clear HD1
          refine wpAnyH_take (i := 1) (oi := ?oiz1) (v := ?vz1) ?hiz1 (by kernel_rfl) (by kernel_rfl) (by kernel_rfl) ?hQz1 ?hyz1 (by assumption) ?restz1
          case hiz1 => simp only [List.getElem?_toArray, List.getElem?_cons_zero, List.getElem?_cons_succ]; rfl
          case hQz1 => exact fun _ _ _ h => h
          case hyz1 => exact Or.inl ⟨by rfl, by intro w hSw; (try dsimp only at hSw); go_simp; with_reducible rfl⟩
          try simp only [Act.put, List.setIfInBounds_toArray, List.set_cons_zero, List.set_cons_succ]
          refine wpAnyH_take (i := 2) (oi := ?oiz2) (v := ?vz2) ?hiz2 (by kernel_rfl) (by kernel_rfl) (by kernel_rfl) ?hQz2 ?hyz2 (by assumption) ?restz2
          case hiz2 => simp only [List.getElem?_toArray, List.getElem?_cons_zero, List.getElem?_cons_succ]; rfl
          case hQz2 => exact fun _ _ _ h => h
          case hyz2 => exact Or.inl ⟨by rfl, by intro w hSw; (try dsimp only at hSw); go_simp; with_reducible rfl⟩
          try simp only [Act.put, List.setIfInBounds_toArray, List.set_cons_zero, List.set_cons_succ]
          refine wpAnyH_take (i := 3) (oi := ?oiz3) (v := ?vz3) ?hiz3 (by kernel_rfl) (by kernel_rfl) (by kernel_rfl) ?hQz3 ?hyz3 (by assumption) ?restz3
          case hiz3 => simp only [List.getElem?_toArray, List.getElem?_cons_zero, List.getElem?_cons_succ]; rfl
          case hQz3 => exact fun _ _ _ h => h
          case hyz3 => exact Or.inl ⟨by rfl, by intro w hSw; (try dsimp only at hSw); go_simp; with_reducible rfl⟩
          try simp only [Act.put, List.setIfInBounds_toArray, List.set_cons_zero, List.set_cons_succ]
          refine wpAnyH_take (i := 4) (oi := ?oiz4) (v := ?vz4) ?hiz4 (by kernel_rfl) (by kernel_rfl) (by kernel_rfl) ?hQz4 ?hyz4 (by assumption) ?restz4
          case hiz4 => simp only [List.getElem?_toArray, List.getElem?_cons_zero, List.getElem?_cons_succ]; rfl
          case hQz4 => exact fun _ _ _ h => h
          case hyz4 => exact Or.inl ⟨by rfl, by intro w9 hSw; have p0 := HCD.out k hlt _ hSw; go_simp; with_reducible rfl⟩
          try simp only [Act.put, List.setIfInBounds_toArray, List.set_cons_zero, List.set_cons_succ]
          refine wpAnyH_ready (rs := [0, 5]) (by kernel_rfl) (by simp) (AllReadyH.cons (o := ?oy50) ?hy50 (fun K hK => ?sy50) (AllReadyH.cons (o := ?oy55) ?hy55 (fun K hK => ?sy55) AllReadyH.nil))
          case hy50 => simp only [List.getElem?_toArray, List.getElem?_cons_zero, List.getElem?_cons_succ]; rfl
          case hy55 => simp only [List.getElem?_toArray, List.getElem?_cons_zero, List.getElem?_cons_succ]; rfl
          case sy50 =>
            have HX := HDd
            have s1 := HX.out.bp.at_ 0 rfl
            go_simp
            refine hK.out _ _ hHeld (fun _ => ?_)
            clear hK K s1
            try simp only [Act.put, List.setIfInBounds_toArray, List.set_cons_zero, List.set_cons_succ]
            clear HX
            refine wpAnyH_ready (rs := [5]) (by kernel_rfl) (by simp) (AllReadyH.cons (o := ?oy65) ?hy65 (fun K hK => ?sy65) AllReadyH.nil)
            case hy65 => simp only [List.getElem?_toArray, List.getElem?_cons_zero, List.getElem?_cons_succ]; rfl
            go_simp
            have hH2 : Ext w (wd.alloc (.cells #[.int .u8 (gI D k)] 5)) := hHeld.alloc _
            refine hK.out _ _ hH2 (fun _ => ?_)
            clear hK K hHeld
            have hHeld := hH2
            clear hH2
            try simp only [Act.put, List.setIfInBounds_toArray, List.set_cons_zero, List.set_cons_succ]
            have HDe := Lib.hid (HDd.out.on (ext_alloc wd (.cells #[.int .u8 (gI D k)] 5)))
            clear HDd
            refine wpAnyH_ready (rs := [6]) (by kernel_rfl) (by simp) (AllReadyH.cons (o := ?oy76) ?hy76 (fun K hK => ?sy76) AllReadyH.nil)
            case hy76 => simp only [List.getElem?_toArray, List.getElem?_cons_zero, List.getElem?_cons_succ]; rfl
            refine stp_appendT rfl _ _ rfl (v := .slice P1 pn pc) rfl HDe.out.p (gI D k) (by omega) (ad := ⟨wd.heap.size, 0, none⟩) rfl ((Blk.new wd 5 #[.int .u8 (gI D k)]).at_ 0 rfl) (by omega) HDe.out.ext.size ?_
            intro v4 w4 ho1 hg1 hat1
            obtain ⟨P4, pn4, pc4, rfl⟩ := ho1.shape3
            have HD4 := Lib.hid (HDe.out.hold ho1 (Go1.app hg1 hat1))
            have hH2 := HD4.out.ext
            clear ho1 hg1 hat1 HDe
            refine hK.out _ _ hH2 (fun _ => ?_)
            clear hK K hHeld
            have hHeld := hH2
            clear hH2
            try simp only [Act.put, List.setIfInBounds_toArray, List.set_cons_zero, List.set_cons_succ]
            refine wpAnyH_ready (rs := [7]) (by kernel_rfl) (by simp) (AllReadyH.cons (o := ?oy87) ?hy87 (fun K hK => ?sy87) AllReadyH.nil)
            case hy87 => simp only [List.getElem?_toArray, List.getElem?_cons_zero, List.getElem?_cons_succ]; rfl
            have s3 := HD4.out.bp.at_ 0 rfl
            have t3 := HD4.out.bp.free 0
            go_simp
            have HD5 := Lib.hid HD4.out.setP
            have hH2 := HD5.out.ext
            clear s3 t3
            refine hK.out _ _ hH2 (fun _ => ?_)
            clear hK K hHeld
            have hHeld := hH2
            clear hH2
            try simp only [Act.put, List.setIfInBounds_toArray, List.set_cons_zero, List.set_cons_succ]
            refine wpAnyH_done (by kernel_rfl) ?_ _
            clear hHeld
            generalize w4.setCell ⟨w.heap.size + 1 + 1 + 1, 0, none⟩ (.slice P4 pn4 pc4) = w5 at HD5 ⊢
            clear HD4
            go_wp2_with fail
            go_roundw
            case rel => exact ⟨k + 1, O, H ++ [gI D k], f, _, _, by omega, by go_num, by rw [HF.out, HST.out, List.drop_drop, gI_drop]; rfl, by omega, by simp; omega, by simp; omega, HD5.out⟩
            case measure => simp [intOf]; omega
          case sy55 =>
            go_simp
            have hH2 : Ext w (wd.alloc (.cells #[.int .u8 (gI D k)] 5)) := hHeld.alloc _
            refine hK.out _ _ hH2 (fun _ => ?_)
            clear hK K hHeld
            have hHeld := hH2
            clear hH2
            try simp only [Act.put, List.setIfInBounds_toArray, List.set_cons_zero, List.set_cons_succ]
            have HX := Lib.hid (HDd.out.on (ext_alloc wd (.cells #[.int .u8 (gI D k)] 5)))
            refine wpAnyH_ready (rs := [0]) (by kernel_rfl) (by simp) (AllReadyH.cons (o := ?oy90) ?hy90 (fun K hK => ?sy90) AllReadyH.nil)
            case hy90 => simp only [List.getElem?_toArray, List.getElem?_cons_zero, List.getElem?_cons_succ]; rfl
            have s1 := HX.out.bp.at_ 0 rfl
            go_simp
            refine hK.out _ _ hHeld (fun _ => ?_)
            clear hK K s1
            try simp only [Act.put, List.setIfInBounds_toArray, List.set_cons_zero, List.set_cons_succ]
            clear HX
            have HDe := Lib.hid (HDd.out.on (ext_alloc wd (.cells #[.int .u8 (gI D k)] 5)))
            clear HDd
            refine wpAnyH_ready (rs := [6]) (by kernel_rfl) (by simp) (AllReadyH.cons (o := ?oy106) ?hy106 (fun K hK => ?sy106) AllReadyH.nil)
            case hy106 => simp only [List.getElem?_toArray, List.getElem?_cons_zero, List.getElem?_cons_succ]; rfl
            refine stp_appendT rfl _ _ rfl (v := .slice P1 pn pc) rfl HDe.out.p (gI D k) (by omega) (ad := ⟨wd.heap.size, 0, none⟩) rfl ((Blk.new wd 5 #[.int .u8 (gI D k)]).at_ 0 rfl) (by omega) HDe.out.ext.size ?_
            intro v4 w4 ho1 hg1 hat1
            obtain ⟨P4, pn4, pc4, rfl⟩ := ho1.shape3
            have HD4 := Lib.hid (HDe.out.hold ho1 (Go1.app hg1 hat1))
            have hH2 := HD4.out.ext
            clear ho1 hg1 hat1 HDe
            refine hK.out _ _ hH2 (fun _ => ?_)
            clear hK K hHeld
            have hHeld := hH2
            clear hH2
            try simp only [Act.put, List.setIfInBounds_toArray, List.set_cons_zero, List.set_cons_succ]
            refine wpAnyH_ready (rs := [7]) (by kernel_rfl) (by simp) (AllReadyH.cons (o := ?oy117) ?hy117 (fun K hK => ?sy117) AllReadyH.nil)
            case hy117 => simp only [List.getElem?_toArray, List.getElem?_cons_zero, List.getElem?_cons_succ]; rfl
            have s3 := HD4.out.bp.at_ 0 rfl
            have t3 := HD4.out.bp.free 0
            go_simp
            have HD5 := Lib.hid HD4.out.setP
            have hH2 := HD5.out.ext
            clear s3 t3
            refine hK.out _ _ hH2 (fun _ => ?_)
            clear hK K hHeld
            have hHeld := hH2
            clear hH2
            try simp only [Act.put, List.setIfInBounds_toArray, List.set_cons_zero, List.set_cons_succ]
            refine wpAnyH_done (by kernel_rfl) ?_ _
            clear hHeld
            generalize w4.setCell ⟨w.heap.size + 1 + 1 + 1, 0, none⟩ (.slice P4 pn4 pc4) = w5 at HD5 ⊢
            clear HD4
            go_wp2_with fail
            go_roundw
            case rel => exact ⟨k + 1, O, H ++ [gI D k], f, _, _, by omega, by go_num, by rw [HF.out, HST.out, List.drop_drop, gI_drop]; rfl, by omega, by simp; omega, by simp; omega, HD5.out⟩
            case measure => simp [intOf]; omega
        · have HST := Lib.hid (HCP.out h8)
          have h8I : ¬ (m : Int) < 8 := by omega
          have HP := Lib.hid (flush_any w wi _ _ _ _ H O HD1.out (by omega) (by omega))
          clear HHD HCP
          go_wp2_with fail
          refine HP.out.mono ?_
          rintro e w1 ⟨vP1, vO1, rfl, hD1⟩
          obtain ⟨P2, pn2, pc2, rfl⟩ := hD1.p.shape3
          obtain ⟨O2, on2, oc2, rfl⟩ := hD1.o.shape3
          have HD3 := Lib.hid hD1
          have d1 := hD1.bo.at_ 0 rfl
          have HCL := Lib.hid (chk_len H.length H)
          have hcl := HCL.out
          have e1 : ((p % 256 : Nat) : Int) = (p : Int) % 256 := by omega
          have e2 : ((p / 256 : Nat) : Int) = (p : Int) / 256 % 256 := by omega
          have hle : bytesLE (p : Int) 2 = [(p : Int) % 256, (p : Int) / 256 % 256] := by
            rw [bytesLE_succ, bytesLE_succ, bytesLE_zero]; simp
          have HST2 := Lib.hid (show dlt B (f + 1) (D.drop k) H O = dlt B f ((D.drop k).drop m) [] (O ++ chk H.length H ++ [1] ++ bytesLE (p : Int) 2 ++ [(m : Int)]) by rw [HST.out, e1, e2, hle]; simp)
          have HW1 := Lib.hid (show IntKind.u16.wrap (p : Int) = (p : Int) by simp [IntKind.wrap, IntKind.min, IntKind.max, IntKind.bits, IntKind.signed]; omega)
          have hw1 := HW1.out
          clear e1 e2 hle HST hD1 HP
          go_wp2_with (at_builtin; refine wpl_append rowByte rfl _ _ rfl (v := .slice O2 on2 oc2) rfl (HD3.out.o.alloc _) _ _ rfl (A := some ⟨w1.heap.size, 0, none⟩) (ys := [1]) rfl (rd_byte w1 1 (by omega) _) (okOne (by omega)) (by simp; omega) (HD3.out.ext.alloc _).size ?_; intro v4 w4 ho1 hg1 hat1; have HD4 := Lib.hid ((HD3.out.on (ext_alloc w1 (.cells #[.int .u8 1] 5))).app ho1 (Go1.app hg1 hat1)); obtain ⟨O4, on4, oc4, rfl⟩ := ho1.shape3; clear ho1 hg1 hat1)
          refine (appendLittle_g _ _ (p : Int) 2 _ _ HD4.out.o HD4.out.ext.size (by omega) (by omega) (by simp; omega)).mono ?_
          rintro e w5 ⟨v5, rfl, ho5, hg5⟩
          have HD5 := Lib.hid (HD4.out.app ho5 hg5)
          obtain ⟨O5, on5, oc5, rfl⟩ := ho5.shape3
          clear ho5 hg5
          go_wp2_with (at_builtin; refine wpl_append rowByte rfl _ _ rfl (v := .slice O5 on5 oc5) rfl (HD5.out.o.alloc _) _ _ rfl (A := some ⟨w5.heap.size, 0, none⟩) (ys := [(m : Int)]) rfl (rd_byte w5 (m : Int) (by omega) _) (okOne (by omega)) (by simp [bytesLE_length]; omega) (HD5.out.ext.alloc _).size ?_; intro v6 w6 ho1 hg1 hat1; have HD6 := Lib.hid ((HD5.out.on (ext_alloc w5 (.cells #[.int .u8 (m : Int)] 5))).app ho1 (Go1.app hg1 hat1)); obtain ⟨O6, on6, oc6, rfl⟩ := ho1.shape3; have s6 := HD6.out.bo.at_ 0 rfl; have t6 := HD6.out.bo.free 0; clear ho1 hg1 hat1)
          have HD7 := Lib.hid HD6.out.setO
          go_roundw
          case rel => exact ⟨k + m, _, [], f, _, _, by omega, by go_num, by rw [HF.out, HST2.out, List.drop_drop], by omega, by simp [bytesLE_length]; omega, by simp, HD7.out⟩
          case measure => simp [intOf]; omega
set_option maxHeartbeats 1000000 in
set_option maxRecDepth 100000 in
theorem implDeltaOf_any (v u : Value) (B D : List Int) (w : World) (S S' : Nat → Prop) (h : RdL tByte w S v B) (h' : RdL tByte w S' u D) :
    Calls Try.prog 11 #[v, u] w fun e w' => ∃ v', e = .returned (.tuple #[v', .int .i64 (deltaR B D).2]) ∧ Own tByte 5 w' w.heap.size v' (deltaR B D).1 ∧ Ext w w' := by
  have H := Lib.hid h
  have H' := Lib.hid h'
  obtain ⟨A, cap, rfl, hcap, hlen, _⟩ := h
  obtain ⟨A', cap', rfl, hcap', hlen', _⟩ := h'
  unfold deltaR
  by_cases h1 : 1024 < B.length
  · rw [if_pos (.inl h1)]
    have h1' : (1024 : Int) < (B.length : Int) := by omega
    go_enter Try.func11, Try.ntmps11
    go_wp2_with fail
    go_ret2
    exact ⟨_, rfl, Own.nil _ _ _ _, Ext.refl _⟩
  by_cases h2 : 1024 < D.length
  · rw [if_pos (.inr h2)]
    have h2' : (1024 : Int) < (D.length : Int) := by omega
    have h1' : ¬ (1024 : Int) < (B.length : Int) := by omega
    go_enter Try.func11, Try.ntmps11
    go_wp2_with fail
    go_ret2
    exact ⟨_, rfl, Own.nil _ _ _ _, Ext.refl _⟩
  rw [if_neg (by omega)]
  have h2' : ¬ (1024 : Int) < (D.length : Int) := by omega
  have h1' : ¬ (1024 : Int) < (B.length : Int) := by omega
  have hc := delta_any _ _ B D w S S' H.out H'.out (by omega) (by omega)
  generalize dltL B D = R at hc ⊢
  have HC := Lib.hid hc
  clear hc
  by_cases h3 : 1024 < R.length
  · rw [if_pos h3]
    have h3' : (1024 : Int) < (R.length : Int) := by omega
    go_enter Try.func11, Try.ntmps11
    go_wp2_with fail
    refine HC.out.mono ?_
    rintro e w1 ⟨v1, rfl, ho, hx⟩
    obtain ⟨A1, c1, rfl⟩ := ho.shape
    have HX := Lib.hid hx
    clear ho hx
    go_wp2_with fail
    go_ret2
    exact ⟨_, rfl, Own.nil _ _ _ _, HX.out⟩
  · rw [if_neg h3]
    have h3' : ¬ (1024 : Int) < (R.length : Int) := by omega
    go_enter Try.func11, Try.ntmps11
    go_wp2_with fail
    refine HC.out.mono ?_
    rintro e w1 ⟨v1, rfl, ho, hx⟩
    obtain ⟨A1, c1, rfl⟩ := ho.shape
    have HO := Lib.hid ho
    have HX := Lib.hid hx
    clear ho hx
    go_wp2_with fail
    go_ret2
    exact ⟨_, rfl, HO.out, HX.out⟩
end Go.Proofs.Yteegnbdgfedajaa
/- Data with parts that come again, drawn from a source. No condition. -/
namespace Go.Proofs.Yteegnbdgfedajaa
open Go.RowKit
set_option linter.unusedVariables false
set_option linter.unusedSimpArgs false

theorem grown_newS {a b c : World} {g : Nat} (h : Ext a b) (hg : b.grownBy c (some g)) (hk : a.heap.size ≤ g) : Ext a c := h.grown hg (fun k e => by injection e with e; omega)
set_option maxHeartbeats 1000000 in
set_option maxRecDepth 100000 in
theorem f6no (A : Option Addr) (n c : Nat) (w : World) (h : ¬ 4096 < n) : Calls Try.prog 20 #[.slice A n c] w fun e w' => e = .returned (.bool false) ∧ w = w' := by
  have h' : ¬ (4096 : Int) < (n : Int) := by omega
  go_enter Try.func20, Try.ntmps20
  go_wp2
  go_ret
  exact ⟨by simp [h], rfl⟩
set_option maxHeartbeats 1000000 in
set_option maxRecDepth 100000 in
theorem f6yes (A : Option Addr) (n c : Nat) (w : World) (h : 4096 < n) : Calls Try.prog 20 #[.slice A n c] w fun e w' => e = .returned (.bool true) ∧ w = w' := by
  have h' : (4096 : Int) < (n : Int) := by omega
  go_enter Try.func20, Try.ntmps20
  go_wp2
  go_ret
  exact ⟨by simp [h], rfl⟩
theorem rd8 {w : World} {S : Nat → Prop} {A : Option Addr} {n c : Nat} {xs : List Int} (h : RdL tByte w S (.slice A n c) xs) : Rd w S tByte.sz A xs.length (xs.flatMap tByte.enc) := by
  obtain ⟨A', cap, e, h1, h2, h3, h4⟩ := h
  injection e with e1 e2 e3
  subst e1
  exact h3
def partsL : List ByteArray := [⟨#[97]⟩, ⟨#[48, 49, 50, 51, 52, 53, 54, 55, 56, 57]⟩, ⟨#[115, 111, 109, 101, 32, 119, 111, 114, 100, 115, 32, 116, 104, 97, 116, 32, 99, 111, 109, 101, 32, 97, 103, 97, 105, 110]⟩, ⟨#[120, 121]⟩, ⟨#[97, 110, 111, 116, 104, 101, 114, 32, 112, 97, 114, 116, 32, 111, 102, 32, 116, 104, 101, 32, 116, 101, 120, 116]⟩]
theorem partsL_ok : ∀ s ∈ partsL, s.size ≤ 26 := by unfold partsL; simp only [List.forall_mem_cons]; decide
theorem Own.ne_srcS {α : Type} {T : Ty α} {e : TypeId} {w : World} {base : Nat} {v : Value} {xs : List α} {g : Nat} (h : Own T e w base v xs) (hg : g < base) : v.ownBlock = none ∨ v.ownBlock ≠ some g := by
  refine .inr fun q => ?_
  have := (h.base_le g q).1
  omega
set_option maxHeartbeats 4000000 in
set_option maxRecDepth 100000 in
theorem l06Bytes_any (g : Nat) (b : Int) (hb : b ≤ 4611686018427387000) (most : Nat) (hm : most ≤ 5) (w : World) (h : Src w g b) :
    Calls Try.prog 51 #[.pointer (some ⟨g, 0, none⟩), .int .i64 most] w fun e w' => ∃ v' xs, e = .returned v' ∧ Own tByte 5 w' w.heap.size v' xs ∧ xs.length ≤ 26 * most ∧ w.grownBy w' (some g) := by
  have hgl := h.lt
  have hm1 : (most : Int) + 1 ≤ 4611686018427387904 := by omega
  go_enter Try.func51, Try.ntmps51
  go_wp2_with fail
  refine (srcPick_any g b (by omega) (most + 1) (by omega) _ (h.ext (ext_alloc _ _))).mono ?_
  rintro e w1 ⟨n, rfl, hn0, hn1, hs, hg⟩
  obtain ⟨n, rfl⟩ := Int.eq_ofNat_of_zero_le hn0
  have hn2 : n ≤ most := by omega
  have HO := Lib.hid ((Own.empty tByte w 5 w.heap.size (Nat.le_refl _)).kept hg (Own.ne_srcS (Own.empty tByte w 5 w.heap.size (Nat.le_refl _)) hgl))
  have HS := Lib.hid hs
  have HG := Lib.hid (grown_trans (ext_grown (some g) (ext_alloc w (Obj.cells #[] 5))) hg)
  clear hs hg h
  go_wp2
  go_loopw [5, 6] (fun a i wr => ∃ (k : Nat) (xs : List Int), k ≤ n ∧ i = .int .i64 k ∧ Own tByte 5 wr w.heap.size a xs ∧ xs.length + 26 * k ≤ 26 * most ∧ Src wr g (b + 2 + 2 * (n - k)) ∧ w.grownBy wr (some g)) (fun _ i _ => (intOf i).toNat)
  case atStart => exact ⟨n, [], by omega, rfl, HO.out, by simp; omega, HS.out.le (by omega), HG.out⟩
  case round =>
    obtain ⟨k, xs, hk, rfl, ho, hl, hs, hg⟩ := hrel
    obtain ⟨C, cn, cc, rfl⟩ := ho.shape3
    clear HO HS HG
    have HO := Lib.hid ho
    have HS := Lib.hid hs
    have HG := Lib.hid hg
    clear ho hs hg
    by_cases h0 : 0 < k
    · have hi : (0 : Int) < (k : Int) := by omega
      go_wp2_with fail
      refine (srcText_any _ _ (by omega) _ partsL (by decide) _ (HS.out.ext (ext_alloc _ _)) _ (Own.of_blk tStr (base := wr.heap.size) (Blk.new wr _ _) (Nat.le_refl _) (by decide) (by unfold partsL; simp only [List.forall_mem_cons]; simp [tStr]; decide)).rd (fun k hk e => by have := hk.1; have := HS.out.lt; omega)).mono ?_
      rintro e w3 ⟨s, hm, rfl, hz, hs, hg⟩
      have HO3 := Lib.hid ((HO.out.alloc (.cells (partsL.flatMap tStr.enc).toArray 9)).kept hg (HO.out.ne_srcS hgl))
      have HG3 := Lib.hid (grown_trans (grown_trans HG.out (ext_grown (some g) (ext_alloc wr (.cells (partsL.flatMap tStr.enc).toArray 9)))) hg)
      have HS3 := Lib.hid hs
      have HSZ := Lib.hid (partsL_ok s hm)
      clear hs hg hm HO HS HG
      go_wp2_with (first
        | (refine wpl_conv (s := s) Try.underlying9 Try.underlying22 Try.underlying5 rfl _ rfl rfl hz ?_; intro A1 c1 w4 hr4 hx4; have HR4 := Lib.hid hr4; have HO4 := Lib.hid (HO3.out.ext hx4); have HS4 := Lib.hid (HS3.out.ext hx4); have HG4 := Lib.hid (grown_ext HG3.out hx4); clear hr4 hx4)
        | (at_builtin; refine wpl_append rowByte rfl _ _ rfl (v := .slice C cn cc) rfl HO4.out _ _ rfl (ys := strL s) (strL_length s).symm (rd8 HR4.out) (strL_ok s) (by have := HSZ.out; rw [strL_length]; omega) HG4.out.size ?_; intro v5 w5 ho5 hg5 hat5; have HS5 := Lib.hid (HS4.out.later hg5 (fun q hq => Nat.lt_of_lt_of_le hgl (HO4.out.base_le q hq).1)); have HG5 := Lib.hid (show w.grownBy w5 (some g) from ⟨hg5.os.trans HG4.out.os, hg5.tape.trans HG4.out.tape, hg5.output.trans HG4.out.output, Nat.le_trans HG4.out.size hg5.size, fun i hi hn => (hg5.block i (Nat.lt_of_lt_of_le hi HG4.out.size) (fun e => by have := (HO4.out.base_le i e.symm).1; omega)).trans (HG4.out.block i hi hn)⟩); have HO5 := Lib.hid ho5; obtain ⟨C5, n5, c5, rfl⟩ := ho5.shape3; clear ho5 hg5 hat5))
      go_roundw
      case rel => exact ⟨k - 1, _, by omega, by go_num, HO5.out, by have := HSZ.out; rw [List.length_append, strL_length]; omega, HS5.out.le (by omega), HG5.out⟩
      case measure => simp [intOf]; omega
    · obtain rfl : k = 0 := by omega
      go_wp2
      go_ret
      exact ⟨_, xs, rfl, HO.out, by omega, HG.out⟩
set_option maxHeartbeats 1000000 in
set_option maxRecDepth 100000 in
theorem p6Bytes_any (v : Value) (code : List Int) (w : World) (S : Nat → Prop) (h : RdL tByte w S v code) :
    Calls Try.prog 21 #[v] w fun e w' => ∃ v' xs, e = .returned v' ∧ Own tByte 5 w' w.heap.size v' xs ∧ xs.length ≤ 130 ∧ Ext w w' := by
  obtain ⟨A, cap, rfl, _⟩ := id h
  go_enter Try.func21, Try.ntmps21
  go_wp2_with fail
  refine (l00From_any _ code _ _ h).mono ?_
  rintro e w1 ⟨rfl, hs, hx⟩
  go_wp2_with fail
  refine (l06Bytes_any _ 0 (by decide) 5 (by decide) _ hs).mono ?_
  rintro e w2 ⟨v2, xs, rfl, ho, hl, hg⟩
  obtain ⟨A2, n2, c2, rfl⟩ := ho.shape3
  have HX := Lib.hid (grown_newS hx hg (Nat.le_refl _))
  have HO := Lib.hid (ho.le hx.size)
  clear ho hg hs hx
  go_wp2
  go_ret
  exact ⟨_, xs, rfl, HO.out, by omega, HX.out⟩
end Go.Proofs.Yteegnbdgfedajaa
/- The program of a delta makes the data: plainly. No condition. -/
namespace Go.Proofs.Yteegnbdgfedajaa
open Go.RowKit
set_option linter.unusedVariables false
set_option linter.unusedSimpArgs false

theorem dlt_acc (B : List Int) (f : Nat) : ∀ D H O, dlt B f D H O = O ++ dlt B f D H [] := by
  induction f with
  | zero => intro D H O; rw [dlt, dlt, List.nil_append]
  | succ f ih =>
    intro D H O
    by_cases h0 : D.length = 0
    · obtain rfl : D = [] := List.eq_nil_of_length_eq_zero h0
      rw [dlt_end, dlt_end, List.nil_append]
    · by_cases hb : (bestK B D B.length).2 < 8
      · rw [dlt_hold B f D H O (by omega) hb, dlt_hold B f D H [] (by omega) hb, ih]
      · rw [dlt_copy B f D H O (by omega) hb, dlt_copy B f D H [] (by omega) hb, ih, ih _ _ ([] ++ _ ++ _)]
        simp only [List.append_assoc, List.nil_append]
theorem apply_chk (B : List Int) (f : Nat) : ∀ H R out, H.length ≤ f → applyL B (chk f H ++ R) out = applyL B R (out ++ H) := by
  induction f with
  | zero =>
    intro H R out h
    obtain rfl : H = [] := List.eq_nil_of_length_eq_zero (by omega)
    simp [chk]
  | succ f ih =>
    intro H R out h
    by_cases h0 : H.length = 0
    · obtain rfl : H = [] := List.eq_nil_of_length_eq_zero h0
      rw [chk_nil]; simp
    · rw [chk_cons f H (by omega)]
      obtain ⟨n, hn⟩ : ∃ n, min 255 H.length = n := ⟨_, rfl⟩
      rw [hn]
      have hn1 : 0 < n ∧ n ≤ H.length := by omega
      have g0 : gI ((0 : Int) :: (n : Int) :: (H.take n ++ chk f (H.drop n)) ++ R) 0 = 0 := rfl
      have g1 : gI ((0 : Int) :: (n : Int) :: (H.take n ++ chk f (H.drop n)) ++ R) 1 = n := rfl
      rw [applyL_lit B _ out g0 (by simp) (by rw [g1]; omega) (by rw [g1]; simp; omega), g1]
      have e : ((n : Int)).toNat = n := by omega
      rw [e]
      have e1 : ((0 : Int) :: (n : Int) :: (H.take n ++ chk f (H.drop n)) ++ R).drop (2 + n) = chk f (H.drop n) ++ R := by
        rw [show 2 + n = (n + 1) + 1 by omega]
        simp only [List.cons_append, List.drop_succ_cons, List.append_assoc]
        rw [List.drop_append_of_le_length (by simp; omega), List.drop_of_length_le (by simp; omega), List.nil_append]
      have e2 : (((0 : Int) :: (n : Int) :: (H.take n ++ chk f (H.drop n)) ++ R).drop 2).take n = H.take n := by
        simp only [List.cons_append, List.drop_succ_cons, List.drop_zero, List.append_assoc]
        rw [List.take_append_of_le_length (by simp; omega), List.take_of_length_le (by simp; omega)]
      rw [e1, e2, ih _ _ _ (by simp; omega), List.append_assoc, List.take_append_drop]
theorem apply_copy (B R out : List Int) (p m : Nat) (hB : B.length ≤ 1024) (h0 : 0 < m) (hpm : p + m ≤ B.length) : applyL B ([(1 : Int), ((p % 256 : Nat) : Int), ((p / 256 : Nat) : Int), (m : Int)] ++ R) out = applyL B R (out ++ (B.drop p).take m) := by
  have g0 : gI ([(1 : Int), ((p % 256 : Nat) : Int), ((p / 256 : Nat) : Int), (m : Int)] ++ R) 0 = 1 := rfl
  have g1 : gI ([(1 : Int), ((p % 256 : Nat) : Int), ((p / 256 : Nat) : Int), (m : Int)] ++ R) 1 = ((p % 256 : Nat) : Int) := rfl
  have g2 : gI ([(1 : Int), ((p % 256 : Nat) : Int), ((p / 256 : Nat) : Int), (m : Int)] ++ R) 2 = ((p / 256 : Nat) : Int) := rfl
  have g3 : gI ([(1 : Int), ((p % 256 : Nat) : Int), ((p / 256 : Nat) : Int), (m : Int)] ++ R) 3 = (m : Int) := rfl
  have e : (((p % 256 : Nat) : Int) + 256 * ((p / 256 : Nat) : Int)).toNat = p := by omega
  have e2 : ((m : Int)).toNat = m := by omega
  rw [applyL_copy B _ out g0 (by simp) (by rw [g3]; omega) (by rw [g1, g2, g3, e, e2]; exact hpm), g1, g2, g3, e, e2]
  rfl
theorem apply_dlt (B : List Int) (hB : B.length ≤ 1024) (f : Nat) : ∀ D H out, D.length ≤ f → applyL B (dlt B f D H []) out = applyL B [] (out ++ H ++ D) := by
  induction f with
  | zero =>
    intro D H out h
    obtain rfl : D = [] := List.eq_nil_of_length_eq_zero (by omega)
    have := apply_chk B H.length H [] out (Nat.le_refl _)
    rw [List.append_nil] at this
    rw [dlt, List.nil_append, this, List.append_nil]
  | succ f ih =>
    intro D H out h
    by_cases h0 : D.length = 0
    · obtain rfl : D = [] := List.eq_nil_of_length_eq_zero h0
      have := apply_chk B H.length H [] out (Nat.le_refl _)
      rw [List.append_nil] at this
      rw [dlt_end, List.nil_append, this, List.append_nil]
    · by_cases hb : (bestK B D B.length).2 < 8
      · rw [dlt_hold B f D H [] (by omega) hb, ih _ _ _ (by simp; omega)]
        have e : [gI D 0] ++ D.drop 1 = D := by
          match D, h0 with
          | d :: D, _ => rfl
        rw [← List.append_assoc, List.append_assoc (out ++ H), e]
      · rw [dlt_copy B f D H [] (by omega) hb, dlt_acc]
        have h1 := bestK_ok B D B.length (Nat.le_refl _)
        obtain ⟨p, m, hpm⟩ : ∃ p m, bestK B D B.length = (p, m) := ⟨_, _, rfl⟩
        rw [hpm] at h1 hb ⊢
        dsimp only at h1 hb ⊢
        have h2 := mat_le 255 (B.drop p) D
        rw [List.length_drop] at h2
        have h3 := mat_eq 255 (B.drop p) D
        rcases h1 with h1 | h1
        · omega
        rw [← h1.2.2] at h2 h3
        rw [List.nil_append, List.append_assoc, apply_chk B _ H _ _ (Nat.le_refl _), apply_copy B _ _ p m hB (by omega) (by omega), ih _ _ _ (by simp; omega), h3, List.append_nil, List.append_assoc (out ++ H), List.take_append_drop]
theorem dlt_len (B : List Int) (f : Nat) : ∀ D H O, (dlt B f D H O).length ≤ O.length + 3 * H.length + 4 * D.length := by
  induction f with
  | zero => intro D H O; rw [dlt, List.length_append]; have := chk_len H.length H; omega
  | succ f ih =>
    intro D H O
    by_cases h0 : D.length = 0
    · obtain rfl : D = [] := List.eq_nil_of_length_eq_zero h0
      rw [dlt_end, List.length_append]; have := chk_len H.length H; omega
    · by_cases hb : (bestK B D B.length).2 < 8
      · rw [dlt_hold B f D H O (by omega) hb]
        have := ih (D.drop 1) (H ++ [gI D 0]) O
        simp only [List.length_append, List.length_drop, List.length_cons, List.length_nil] at this
        omega
      · rw [dlt_copy B f D H O (by omega) hb]
        have := ih (D.drop (bestK B D B.length).2) [] (O ++ chk H.length H ++ [(1 : Int), (((bestK B D B.length).1 % 256 : Nat) : Int), (((bestK B D B.length).1 / 256 : Nat) : Int), ((bestK B D B.length).2 : Int)])
        have h2 := chk_len H.length H
        simp only [List.length_append, List.length_drop, List.length_cons, List.length_nil] at this
        omega
theorem delta_ok {B D : List Int} (hB : B.length ≤ 1024) (hD : D.length ≤ 256) : deltaR B D = (dltL B D, 0) ∧ (dltL B D).length ≤ 1024 := by
  have h := dlt_len B D.length D [] []
  have h2 : (dltL B D).length ≤ 1024 := by unfold dltL; simp at h; omega
  exact ⟨by unfold deltaR; rw [if_neg (by omega), if_neg (by omega)], h2⟩
theorem made_ok {B D : List Int} (hB : B.length ≤ 1024) (hD : D.length ≤ 256) : applyR B (dltL B D) = (D, 0) := by
  have h2 := (delta_ok hB hD).2
  unfold applyR
  rw [if_neg (by omega)]
  unfold dltL
  rw [apply_dlt B hB D.length D [] [] (Nat.le_refl _), applyL_end]
  simp
  omega
theorem best_self (D : List Int) (hD : D.length ≤ 255) (h0 : 0 < D.length) (k : Nat) : bestK D D (k + 1) = (0, D.length) := by
  induction k with
  | zero =>
    rw [bestK, show bestK D D 0 = (0, 0) from rfl, List.drop_zero, mat_self, Nat.min_eq_right hD, if_pos h0]
  | succ k ih =>
    rw [bestK, ih, if_neg]
    have := (mat_le 255 (D.drop (k + 1)) D).2.2
    dsimp only
    omega
theorem own_len {D : List Int} (h8 : 8 ≤ D.length) (hD : D.length ≤ 255) : (dltL D D).length = 4 := by
  obtain ⟨n, hn⟩ : ∃ n, D.length = n + 1 := ⟨D.length - 1, by omega⟩
  have hb := best_self D hD (by omega) n
  rw [← hn] at hb
  unfold dltL
  obtain ⟨f, hf⟩ : ∃ f, D.length = f := ⟨_, rfl⟩
  rw [hf, show f = n + 1 by omega, dlt_copy D n D [] [] (by omega) (by rw [hb]; dsimp only; omega), hb]
  dsimp only
  rw [List.drop_length, dlt_end]
  simp [chk]
end Go.Proofs.Yteegnbdgfedajaa
/- What a program makes of a base: the reference and the program. No condition. -/
namespace Go.Proofs.Yteegnbdgfedajaa
open Go.RowKit
set_option linter.unusedVariables false
set_option linter.unusedSimpArgs false

end Go.Proofs.Yteegnbdgfedajaa
/- What a program makes of a base: the program. No condition. -/
namespace Go.Proofs.Yteegnbdgfedajaa
open Go.RowKit
set_option linter.unusedVariables false
set_option linter.unusedSimpArgs false

set_option maxHeartbeats 16000000 in
set_option maxRecDepth 100000 in
theorem apply_any (v u : Value) (base p : List Int) (w : World) (S S' : Nat → Prop) (h : RdL tByte w S v base) (h' : RdL tByte w S' u p) (hb : base.length ≤ 1024) (hp : p.length ≤ 1024) :
    Calls Try.prog 53 #[v, u] w fun e w' => ∃ v', e = .returned (.tuple #[v', .int .i64 (applyL base p []).2]) ∧ Own tByte 5 w' w.heap.size v' (applyL base p []).1 ∧ Ext w w' := by
  obtain ⟨A, cap, rfl, hcap, hlen, hrd, hok⟩ := h
  obtain ⟨A', cap', rfl, hcap', hlen', hrd', hok'⟩ := h'
  have Hrd := Lib.hid (show Rd w S 1 A base.length (nums .u8 base) by rw [← flat_bytes]; exact hrd)
  have Hrd' := Lib.hid (show Rd w S' 1 A' p.length (nums .u8 p) by rw [← flat_bytes]; exact hrd')
  have Hok := Lib.hid hok
  have Hok' := Lib.hid (show B8 p from hok')
  clear hrd hrd' hok hok'
  go_enter Try.func53, Try.ntmps53
  go_wp2_with fail
  go_loopw [1, 6] (fun i o wr => ∃ (q out : List Int) (A1 : Option Addr) (c1 : Nat), q.length ≤ p.length ∧ i = .slice A1 q.length c1 ∧ q.length ≤ c1 ∧ applyL base p [] = applyL base q out ∧ out.length ≤ 255 * (p.length - q.length) ∧ B8 q ∧ Rd w S' 1 A1 q.length (nums .u8 q) ∧ Own tByte 5 wr w.heap.size o out ∧ Ext w wr)
    (fun i _ _ => lenV i)
  case atStart => exact ⟨p, [], A', cap', by omega, rfl, hcap', rfl, by simp, Hok'.out, Hrd'.out, Own.empty _ _ _ _ (Nat.le_refl _), ext_alloc _ _⟩
  case round =>
    obtain ⟨q, out, A1, c1, hqp, rfl, hqc, hF, hol, hBq, hRq, hO, hX⟩ := hrel
    have HF := Lib.hid hF
    have HO := Lib.hid hO
    have HX := Lib.hid hX
    have HBq := Lib.hid hBq
    have HRq := Lib.hid hRq
    obtain ⟨B, bc, rfl⟩ := hO.shape
    clear hF hO hX hBq hRq
    by_cases hq : q.length = 0
    · obtain rfl : q = [] := List.eq_nil_of_length_eq_zero hq
      have hend := applyL_end base out
      by_cases h1 : 1024 < out.length
      · rw [if_pos h1] at hend
        have HE := Lib.hid hend
        clear hend
        go_wp2_with fail
        go_ret2
        rw [HF.out, HE.out]
        exact ⟨_, rfl, Own.nil _ _ _ _, HX.out⟩
      · rw [if_neg h1] at hend
        have HE := Lib.hid hend
        clear hend
        go_wp2_with fail
        go_ret2
        rw [HF.out, HE.out]
        exact ⟨_, rfl, HO.out, HX.out⟩
    obtain ⟨g, o, rfl, hs, hcq⟩ := HRq.out.2 (by omega)
    have cellq : ∀ j, j < q.length → wr.cell? ⟨g, o + j, none⟩ = some (.int .u8 (gI q j)) := fun j hj => HX.out.cell (hcq j _ (nums_at _ _ _ hj))
    have CQ := Lib.hid cellq
    clear hcq cellq
    have hc0 : wr.cell? ⟨g, o, none⟩ = some (.int .u8 (gI q 0)) := CQ.out 0 (by omega)
    have hB0 := B8.get HBq.out 0
    have hbadn : ¬ (gI q 0 = 0 ∧ 1 < q.length ∧ 0 < gI q 1 ∧ 2 + (gI q 1).toNat ≤ q.length) → ¬ (gI q 0 = 1 ∧ 3 < q.length ∧ 0 < gI q 3 ∧ (gI q 1 + 256 * gI q 2).toNat + (gI q 3).toNat ≤ base.length) → applyL base q out = ([], 5) := fun a b => applyL_bad _ _ _ (by omega) a b
    have HB := Lib.hid hbadn
    clear hbadn
    by_cases h0 : gI q 0 = 0
    · rw [h0] at hc0
      have H0 := Lib.hid h0
      clear h0 hB0
      by_cases hl1 : q.length ≤ 1
      · go_wp2_with fail
        go_ret2
        rw [HF.out, HB.out (by omega) (by rw [H0.out]; omega)]
        exact ⟨_, rfl, Own.nil _ _ _ _, HX.out⟩
      have hc1 := CQ.out 1 (by omega)
      have hB1 := B8.get HBq.out 1
      by_cases hz : gI q 1 = 0
      · rw [hz] at hc1
        have HZ := Lib.hid hz
        clear hz hB1
        go_wp2_with fail
        go_ret2
        rw [HF.out, HB.out (by rw [HZ.out]; omega) (by rw [H0.out]; omega)]
        exact ⟨_, rfl, Own.nil _ _ _ _, HX.out⟩
      by_cases hfit : q.length < 2 + (gI q 1).toNat
      · go_wp2_with fail
        go_ret2
        rw [HF.out, HB.out (by omega) (by rw [H0.out]; omega)]
        exact ⟨_, rfl, Own.nil _ _ _ _, HX.out⟩
      have hgood := applyL_lit base q out H0.out (by omega) (by omega) (by omega)
      have HG := Lib.hid hgood
      clear hgood
      have hcut := HRq.out.cut8 (2 + (gI q 1).toNat) c1 (by omega) hqc
      have HCut := Lib.hid hcut
      clear hcut
      go_wp2_with fail
      have W1 : IntKind.i64.wrap (2 + gI q 1) = 2 + gI q 1 := IntWalk.i64_in _ (by omega)
      have W2 : (0 : Int) ≤ 2 + gI q 1 := by omega
      have W3 : (2 + gI q 1 : Int) ≤ (c1 : Int) := by omega
      have W4 : (2 + gI q 1).toNat = 2 + (gI q 1).toNat := by omega
      have W6 : ¬ c1 = 2 := by omega
      have W7 : (2 + gI q 1 : Int) ≤ (q.length : Int) := by omega
      have W8 : max (gI q 1) 0 = gI q 1 := by omega
      have W9 : (2 : Int) ≤ 2 + gI q 1 := by omega
      go_region_law (refine stp_append rowByte rfl (.tmp 44) (.tmp 48) rfl (v := .slice B out.length bc) (by simp [Act.eval, Act.put]) HO.out.drew (A := some ⟨g, o + 2, none⟩) (gI q 1).toNat (c1 - 2) (by simp [Act.eval, Act.put]) (ys := (q.drop 2).take (gI q 1).toNat) (S := S') (by simp; omega) ((HRq.out.ext (by decide) HX.out.drew).sub8 2 _ (by omega)) (fun x hx => HBq.out x (List.mem_of_mem_drop (List.mem_of_mem_take hx))) (by simp; omega) HX.out.size ?_; intro v1 w1 ho1 hg1 hat1; have HO1 := Lib.hid ho1; have HX1 := Lib.hid (HO.out.drew.ext_app HX.out.drew hg1); obtain ⟨B1, bn1, bc1, rfl⟩ := ho1.shape3; clear ho1 hg1 hat1)
      all_goals
        simp only [Act.put, List.setIfInBounds_toArray, List.set_cons_zero, List.set_cons_succ, List.getElem_cons_zero, List.getElem_cons_succ, List.getElem_toArray]
        go_wp2_with fail
        go_roundw
        case rel => exact ⟨q.drop (2 + (gI q 1).toNat), _, _, _, by simp; omega, by rw [List.length_drop], by simp; omega, HF.out.trans HG.out, by simp; omega, HBq.out.drop _, HCut.out, HO1.out, HX1.out⟩
        case measure => simp [lenV]; omega
    · have hbadn2 : ¬ (gI q 0 = 1 ∧ 3 < q.length ∧ 0 < gI q 3 ∧ (gI q 1 + 256 * gI q 2).toNat + (gI q 3).toNat ≤ base.length) → applyL base q out = ([], 5) := fun hh => HB.out (fun a => h0 a.1) hh
      have HB2 := Lib.hid hbadn2
      clear hbadn2 HB
      by_cases h1 : gI q 0 = 1
      · rw [h1] at hc0
        have H1 := Lib.hid h1
        clear h0 h1 hB0
        by_cases hl3 : q.length ≤ 3
        · go_wp2_with fail
          go_ret2
          rw [HF.out, HB2.out (by omega)]
          exact ⟨_, rfl, Own.nil _ _ _ _, HX.out⟩
        have hc3 := CQ.out 3 (by omega)
        have hB1 := B8.get HBq.out 1
        have hB2 := B8.get HBq.out 2
        have hB3 := B8.get HBq.out 3
        by_cases hz : gI q 3 = 0
        · rw [hz] at hc3
          have HZ := Lib.hid hz
          clear hz hB3
          go_wp2_with fail
          go_ret2
          rw [HF.out, HB2.out (by rw [HZ.out]; omega)]
          exact ⟨_, rfl, Own.nil _ _ _ _, HX.out⟩
        have hlit : littleN ((q.drop 1).take 2) = gI q 1 + 256 * gI q 2 := by
          have e : (q.drop 1).take 2 = [gI q 1, gI q 2] := by
            rw [List.drop_eq_getElem_cons (by omega : 1 < q.length), List.drop_eq_getElem_cons (by omega : 2 < q.length), ← gI_lt, ← gI_lt]
            rfl
          rw [e]
          simp [littleN]
        have hsub := (HRq.out.ext (by decide) HX.out).sub8 1 2 (by omega)
        have hl2 : ((q.drop 1).take 2).length = 2 := by simp; omega
        have hrdl : RdL tByte wr S' (.slice (some ⟨g, o + 1, none⟩) 2 (c1 - 1)) ((q.drop 1).take 2) := ⟨_, c1 - 1, by rw [hl2], by rw [hl2]; omega, by rw [hl2]; omega, hsub, fun x hx => HBq.out x (List.mem_of_mem_drop (List.mem_of_mem_take hx))⟩
        have hcall := fun n => littleNumber_any _ _ (wr.drewN n) S' (hrdl.ext (by decide) ((Ext.refl _).drewN n)) (by rw [hl2]; omega)
        rw [hlit] at hcall
        have HC := Lib.hid hcall
        clear hcall hrdl hsub hl2 hlit
        have W0 : ¬ c1 = 1 := by omega
        have V1 : (0 : Int) ≤ 3 := by omega
        have V2 : (3 : Int) ≤ (c1 : Int) := by omega
        go_wp2_with fail
        go_quiet ((go_at_call 84; exact Calls.quiet_of ((HC.out _).mono fun e w' ⟨he, hw⟩ => ⟨he, 0, hw.symm⟩)))
        by_cases hfit : base.length < (gI q 1 + 256 * gI q 2).toNat + (gI q 3).toNat
        · go_wp2_with fail
          go_ret2
          rw [HF.out, HB2.out (by omega)]
          exact ⟨_, rfl, Own.nil _ _ _ _, HX.out.drewN _⟩
        have hgood := applyL_copy base q out H1.out (by omega) (by omega) (by omega)
        have HG := Lib.hid hgood
        have hcut := HRq.out.cut8 4 c1 (by omega) hqc
        have HCut := Lib.hid hcut
        obtain ⟨gb, ob, hA5, _, _⟩ := Hrd.out.2 (by omega)
        subst hA5
        clear hgood hcut
        go_wp2_with fail
        have W1 : IntKind.i64.wrap (gI q 1 + 256 * gI q 2 + gI q 3) = gI q 1 + 256 * gI q 2 + gI q 3 := IntWalk.i64_in _ (by omega)
        have W2 : (0 : Int) ≤ gI q 1 + 256 * gI q 2 + gI q 3 := by omega
        have W3 : (gI q 1 + 256 * gI q 2 + gI q 3 : Int) ≤ (cap : Int) := by omega
        have W4 : (gI q 1 + 256 * gI q 2 + gI q 3).toNat = (gI q 1 + 256 * gI q 2).toNat + (gI q 3).toNat := by omega
        have W5 : (0 : Int) ≤ gI q 1 + 256 * gI q 2 := by omega
        have W6 : ¬ cap = (gI q 1 + 256 * gI q 2).toNat := by omega
        have W7 : gI q 1 + 256 * gI q 2 ≤ max (gI q 1 + 256 * gI q 2 + gI q 3) 0 := by omega
        have W8 : (4 : Int) ≤ (q.length : Int) := by omega
        have W9 : gI q 1 + 256 * gI q 2 ≤ max (gI q 1 + 256 * gI q 2) 0 + max (gI q 3) 0 := by omega
        go_region_law (refine stp_append rowByte rfl (.tmp 84) (.tmp 90) rfl (v := .slice B out.length bc) (by simp [Act.eval, Act.put]) (by first | exact (HO.out.drewN _).drew | exact HO.out.drewN _) (A := some ⟨gb, ob + (gI q 1 + 256 * gI q 2).toNat, none⟩) (gI q 3).toNat (cap - (gI q 1 + 256 * gI q 2).toNat) (by simp [Act.eval, Act.put]) (ys := (base.drop (gI q 1 + 256 * gI q 2).toNat).take (gI q 3).toNat) (S := S) (by simp; omega) ((Hrd.out.ext (by decide) (by first | exact (HX.out.drewN _).drew | exact HX.out.drewN _)).sub8 _ _ (by omega)) (fun x hx => Hok.out x (List.mem_of_mem_drop (List.mem_of_mem_take hx))) (by simp; omega) HX.out.size ?_; intro v1 w1 ho1 hg1 hat1; have HO1 := Lib.hid ho1; have HX1 : Hid (Ext w w1) := by first | exact Lib.hid ((HO.out.drewN _).drew.ext_app (HX.out.drewN _).drew hg1) | exact Lib.hid ((HO.out.drewN _).ext_app (HX.out.drewN _) hg1); obtain ⟨B1, bn1, bc1, rfl⟩ := ho1.shape3; clear ho1 hg1 hat1)
        all_goals
          simp only [Act.put, List.setIfInBounds_toArray, List.set_cons_zero, List.set_cons_succ, List.getElem_cons_zero, List.getElem_cons_succ, List.getElem_toArray]
          go_wp2_with fail
          go_roundw
          case rel => exact ⟨q.drop 4, _, _, _, by simp; omega, by rw [List.length_drop], by simp; omega, HF.out.trans HG.out, by simp; omega, HBq.out.drop _, HCut.out, HO1.out, HX1.out⟩
          case measure => simp [lenV]; omega
      · have hbad := HB2.out (fun a => h1 a.1)
        have HE := Lib.hid hbad
        have hne0 : (gI q 0 == 0) = false := by simpa using h0
        have hne1 : (gI q 0 == 1) = false := by simpa using h1
        clear hbad
        go_wp2_with fail
        go_ret2
        rw [HF.out, HE.out]
        exact ⟨_, rfl, Own.nil _ _ _ _, HX.out⟩

end Go.Proofs.Yteegnbdgfedajaa
/- ApplyDelta: the reference and the program. No condition. -/
namespace Go.Proofs.Yteegnbdgfedajaa
open Go.RowKit
set_option linter.unusedVariables false
set_option linter.unusedSimpArgs false

set_option maxHeartbeats 1000000 in
set_option maxRecDepth 100000 in
theorem implApplyDelta_any (v u : Value) (base p : List Int) (w : World) (S S' : Nat → Prop) (h : RdL tByte w S v base) (h' : RdL tByte w S' u p) :
    Calls Try.prog 22 #[v, u] w fun e w' => ∃ v', e = .returned (.tuple #[v', .int .i64 (applyR base p).2]) ∧ Own tByte 5 w' w.heap.size v' (applyR base p).1 ∧ Ext w w' := by
  have H := Lib.hid h
  have H' := Lib.hid h'
  obtain ⟨A, cap, rfl, hcap, hlen, _⟩ := h
  obtain ⟨A', cap', rfl, hcap', hlen', _⟩ := h'
  unfold applyR
  by_cases h1 : 1024 < base.length
  · rw [if_pos (.inl h1)]
    go_enter Try.func22, Try.ntmps22
    go_wp2_with fail
    go_ret2
    exact ⟨_, rfl, Own.nil _ _ _ _, Ext.refl _⟩
  by_cases h2 : 1024 < p.length
  · rw [if_pos (.inr h2)]
    go_enter Try.func22, Try.ntmps22
    go_wp2_with fail
    go_ret2
    exact ⟨_, rfl, Own.nil _ _ _ _, Ext.refl _⟩
  rw [if_neg (by omega)]
  have hc := apply_any _ _ base p w S S' H.out H'.out (by omega) (by omega)
  obtain ⟨R, hR⟩ : ∃ R, applyL base p [] = R := ⟨_, rfl⟩
  obtain ⟨R, c⟩ := R
  rw [hR] at hc ⊢
  have HC := Lib.hid hc
  clear hR hc
  go_enter Try.func22, Try.ntmps22
  go_wp2_with fail
  refine HC.out.mono ?_
  rintro e w1 ⟨v1, rfl, ho, hx⟩
  obtain ⟨A1, n1, c1, rfl⟩ := ho.shape3
  have HO := Lib.hid ho
  have HX := Lib.hid hx
  clear ho hx
  go_wp2_with fail
  go_ret2
  exact ⟨_, rfl, HO.out, HX.out⟩

end Go.Proofs.Yteegnbdgfedajaa
/- Blobs: what the laws, the reference and the program say of one. No condition. -/
namespace Go.Proofs.Yteegnbdgfedajaa
open Go.RowKit
set_option linter.unusedVariables false
set_option linter.unusedSimpArgs false

set_option maxHeartbeats 400000 in
theorem l01Bytes_any (v u : Value) (xs ys : List Int) (w : World) (S S' : Nat → Prop) (h : RdL tByte w S v xs) (h' : RdL tByte w S' u ys) :
    Calls Try.prog 54 #[v, u] w fun e w' => e = .returned (.bool (xs == ys)) ∧ Drawn w w' := by
  obtain ⟨A, cap, rfl, hcap, hlen, hrd, hok⟩ := h
  obtain ⟨A', cap', rfl, hcap', hlen', hrd', hok'⟩ := h'
  have Hrd := Lib.hid (show Rd w S 1 A xs.length (nums .u8 xs) by rw [← flat_bytes]; exact hrd)
  have Hrd' := Lib.hid (show Rd w S' 1 A' ys.length (nums .u8 ys) by rw [← flat_bytes]; exact hrd')
  clear hrd hrd'
  by_cases hl : xs.length = ys.length
  · have Hl := Lib.hid hl
    have hl1 : ((xs.length : Int) != (ys.length : Int)) = false := by simp [hl]
    clear hl
    go_enter Try.func54, Try.ntmps54
    go_wp2
    go_loopw [5] (fun i wr => ∃ k : Nat, k ≤ xs.length ∧ i = .int .i64 k ∧ xs.take k = ys.take k ∧ Drawn w wr)
      (fun i _ => xs.length - (intOf i).toNat)
    case atStart => exact ⟨0, by omega, rfl, by simp, Drawn.refl _⟩
    case round =>
      obtain ⟨k, hk, rfl, ht, hD⟩ := hrel
      have Ht := Lib.hid ht
      have HD := Lib.hid hD
      clear ht hl1 hD
      by_cases hlt : k < xs.length
      · have hlt' : k < ys.length := by rw [← Hl.out]; exact hlt
        obtain ⟨g, o, rfl, hs, hc⟩ := (Hrd.out).byte k hlt
        obtain ⟨g', o', rfl, hs', hc'⟩ := (Hrd'.out).byte k hlt'
        have hd := HD.out.ext.cell hc
        have hd' := HD.out.ext.cell hc'
        clear hc hc'
        by_cases he : gI xs k = gI ys k
        · have He := Lib.hid he
          have hne : (gI xs k != gI ys k) = false := by simpa using he
          clear he
          go_wp2
          go_quiet (fail)
          go_wp2
          go_roundw
          case rel => exact ⟨k + 1, by omega, by go_num, take_eq_step hlt hlt' Ht.out He.out, HD.out.drewN _⟩
          case measure => simp [intOf]; omega
        · have He := Lib.hid he
          have hne : (gI xs k != gI ys k) = true := by simpa using he
          clear he
          go_wp2
          go_quiet (fail)
          go_wp2
          go_ret
          exact ⟨by rw [beq_eq_false_iff_ne.2 (fun h => He.out (by rw [h]))]; rfl, HD.out.drewN _⟩
      · go_wp2
        go_ret
        obtain rfl : k = xs.length := by omega
        refine ⟨?_, HD.out⟩
        have e := Ht.out
        rw [List.take_of_length_le (by omega), List.take_of_length_le (by rw [Hl.out]; omega)] at e
        subst e; simp
  · have Hl := Lib.hid hl
    have hl1 : ((xs.length : Int) != (ys.length : Int)) = true := by simp; omega
    clear hl
    go_enter Try.func54, Try.ntmps54
    go_wp2
    go_ret
    exact ⟨by rw [beq_eq_false_iff_ne.2 (fun h => Hl.out (by rw [h]))]; rfl, Drawn.refl _⟩



set_option maxHeartbeats 400000 in
theorem szBlob_any (t : Int) (A : Option Addr) (n c : Nat) (l : Int) (hn : (n : Int) ≤ 140737488355328) (h0 : -1 ≤ l) (h1 : l ≤ 1048576) (w : World) :
    Calls Try.prog 34 #[.agg #[.int .u8 t, .slice A n c], .int .i64 l] w fun e w' => e = .returned (.int .i64 (if l - n < 0 then -1 else l - n)) ∧ Ext w w' := by
  have hc := fun W => szByteS_any A n c l hn h0 h1 W
  by_cases h : l - (n : Int) < 0
  · simp only [if_pos h] at hc ⊢
    go_enter Try.func34, Try.ntmps34
    go_wp2_with (go_at_call 72; refine (hc _).mono ?_; rintro e w' ⟨rfl, rfl⟩)
    go_ret
    exact ⟨rfl, ext_alloc _ _⟩
  · simp only [if_neg h] at hc ⊢
    go_enter Try.func34, Try.ntmps34
    go_wp2_with (go_at_call 72; refine (hc _).mono ?_; rintro e w' ⟨rfl, rfl⟩)
    go_ret
    exact ⟨rfl, ext_alloc _ _⟩

set_option maxHeartbeats 400000 in
theorem toBlob_any (t : Int) (v : Value) (xs : List Int) (w : World) (S : Nat → Prop) (h : RdL tByte w S v xs) :
    Calls Try.prog 36 #[.agg #[.int .u8 t, v]] w fun e w' => ∃ v', e = .returned (.agg #[.int .u8 t, v']) ∧ Own tByte 5 w' w.heap.size v' xs ∧ Ext w w' := by
  go_enter Try.func36, Try.ntmps36
  go_wp2_with fail
  refine (toByteS_any v xs _ S (h.ext (by decide) (((ext_alloc w _).alloc _).alloc _))).mono ?_
  rintro e w1 ⟨v', rfl, ho, hx⟩
  obtain ⟨A', c', rfl⟩ := ho.shape
  have c0 : w1.cell? ⟨w.heap.size + 1 + 1, 0, none⟩ = some (.int .u8 t) := hx.cell (by go_simp)
  have c1 : w1.cell? ⟨w.heap.size + 1 + 1, 1, none⟩ = some (.slice none 0 0) := hx.cell (by go_simp)
  have f1 : w1.frozen? ⟨w.heap.size + 1 + 1, 1, none⟩ = false := hx.free (by simp) (by go_simp)
  have d0 : w1.cell? ⟨w.heap.size + 1, 0, none⟩ = some (.int .u8 0) := hx.cell (by go_simp)
  have d1 : w1.cell? ⟨w.heap.size + 1, 1, none⟩ = some (.slice none 0 0) := hx.cell (by go_simp)
  have e0 : w1.frozen? ⟨w.heap.size + 1, 0, none⟩ = false := hx.free (by simp) (by go_simp)
  have e1 : w1.frozen? ⟨w.heap.size + 1, 1, none⟩ = false := hx.free (by simp) (by go_simp)
  have Ho := Lib.hid ho
  have Hx := Lib.hid hx
  clear ho hx
  go_wp2_with fail
  refine bodyPost_ret (v := .agg #[.int .u8 t, .slice A' xs.length c']) (by simp [results, Try.results36, go_sem, c0, c1, d0, d1, f1, e0, e1]) rfl ?_
  exact ⟨_, rfl, (((Ho.out.set_below (by simp) _).set_below (by simp) _).set_below (by simp) _).le (by simp; omega),
    (((((ext_alloc w _).alloc _).alloc _).trans Hx.out).set (by simp; omega) _ |>.set (by simp) _).set (by simp) _⟩

set_option maxHeartbeats 400000 in
theorem eqBlob_any (t u : Int) (v v' : Value) (xs ys : List Int) (w : World) (S S' : Nat → Prop) (h : RdL tByte w S v xs) (h' : RdL tByte w S' v' ys) :
    Calls Try.prog 39 #[.agg #[.int .u8 t, v], .agg #[.int .u8 u, v']] w fun e w' => e = .returned (.bool (t == u && xs == ys)) ∧ Ext w w' := by
  obtain ⟨A, cap, rfl, _, _⟩ := id h
  obtain ⟨A', cap', rfl, _, _⟩ := id h'
  have H := Lib.hid h
  have H' := Lib.hid h'
  clear h h'
  have hc := fun a b => eqByteS_any _ _ xs ys ((w.alloc a).alloc b) S S' (H.out.ext (by decide) ((ext_alloc w a).alloc b)) (H'.out.ext (by decide) ((ext_alloc w a).alloc b))
  generalize (xs == ys) = q at hc ⊢
  have HC := Lib.hid hc
  clear hc
  by_cases ht : t = u
  · subst ht
    have hne : (t != t) = false := by simp
    have hp : (t == t && q) = q := by simp
    rw [hp]
    clear hp
    go_enter Try.func39, Try.ntmps39
    go_wp2_with fail
    refine (HC.out _ _).mono ?_
    rintro e w1 ⟨rfl, hD⟩
    have HD := Lib.hid hD
    clear hD
    cases q
    all_goals
      go_wp2_with fail
      go_ret
      exact ⟨rfl, ((ext_alloc w _).alloc _).trans HD.out.ext⟩
  · have hne : (t != u) = true := by simpa using ht
    have hp : (t == u && q) = false := by simp [ht]
    rw [hp]
    clear hp ht
    go_enter Try.func39, Try.ntmps39
    go_wp2_with fail
    go_ret
    exact ⟨rfl, (ext_alloc w _).alloc _⟩

/-! ### a valid blob -/
set_option maxHeartbeats 400000 in
theorem implValidBlob_any (t : Int) (A : Option Addr) (n c : Nat) (w : World) :
    Calls Try.prog 75 #[.agg #[.int .u8 t, .slice A n c]] w fun e w' => e = .returned (.bool (decide (n ≤ 1024))) ∧ Ext w w' := by
  go_enter Try.func75, Try.ntmps75
  go_wp2
  go_ret
  exact ⟨ret_bool (by simp; omega), ext_alloc _ _⟩

end Go.Proofs.Yteegnbdgfedajaa
/- Equal data: the reference. No condition. -/
namespace Go.Proofs.Yteegnbdgfedajaa
open Go.RowKit
set_option linter.unusedVariables false
set_option linter.unusedSimpArgs false
set_option maxHeartbeats 1000000 in
set_option maxRecDepth 100000 in
theorem sameData_any (v u : Value) (xs ys : List Int) (w : World) (S S' : Nat → Prop) (h : RdL tByte w S v xs) (h' : RdL tByte w S' u ys) :
    Calls Try.prog 23 #[v, u] w fun e w' => e = .returned (.bool (xs == ys)) ∧ Ext w w' := by
  have hc := l01Bytes_any _ _ xs ys w S S' h h'
  obtain ⟨A, cap, rfl, _⟩ := h
  obtain ⟨A', cap', rfl, _⟩ := h'
  generalize (xs == ys) = r at hc ⊢
  go_enter Try.func23, Try.ntmps23
  go_wp2_with fail
  refine hc.mono ?_
  rintro e w1 ⟨rfl, hD⟩
  have HX := Lib.hid hD.ext
  clear hD hc
  go_wp2_with fail
  go_ret
  exact ⟨rfl, HX.out⟩
end Go.Proofs.Yteegnbdgfedajaa
