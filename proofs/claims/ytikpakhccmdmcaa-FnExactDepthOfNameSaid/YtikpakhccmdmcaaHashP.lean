/- The statements' key of bytes: what stands behind the bytes. No condition. -/
import Derived.Test.YtikpakhccmdmcaaHashS
namespace Go.Proofs.Ytikpakhccmdmcaa
open Go.RowKit
set_option linter.unusedVariables false
set_option linter.unusedSimpArgs false

theorem okOne {x : Int} (h : 0 ≤ x ∧ x ≤ 255) : ∀ y ∈ [x], tByte.ok y := by
  intro y hy
  obtain rfl := List.mem_singleton.1 hy
  exact h
theorem rd_byte (w : World) (x : Int) (h : 0 ≤ x ∧ x ≤ 255) (t : TypeId) : Rd (w.alloc (.cells #[.int .u8 x] t)) (fun _ => True) tByte.sz (some ⟨w.heap.size, 0, none⟩) [x].length ([x].flatMap tByte.enc) := rd_one (T := tByte) w x h t
theorem Own.len {α : Type} {T : Ty α} {e : TypeId} {w : World} {base : Nat} {A : Option Addr} {n c : Nat} {xs : List α} (h : Own T e w base (.slice A n c) xs) : n = xs.length := by
  obtain ⟨A', c', he⟩ := h.shape
  injection he
set_option maxHeartbeats 1000000 in
set_option maxRecDepth 100000 in
theorem l01Padded_any (v : Value) (xs : List Int) (w : World) (S : Nat → Prop) (h : RdL tByte w S v xs) (hl : xs.length ≤ 70368744177664) (len : Int) (h0 : 0 ≤ len) (h1 : len ≤ 9223372036854775807) :
    Calls Try.prog 132 #[v, .int .i64 len] w fun e w' => ∃ v', e = .returned v' ∧ Own tByte 5 w' w.heap.size v' (xs ++ padL xs.length len) ∧ Ext w w' := by
  obtain ⟨A, cap, rfl, hcap, hlen, hrd, hok⟩ := h
  have Hrd := Lib.hid hrd
  have Hok := Lib.hid hok
  clear hrd hok
  go_enter Try.func132, Try.ntmps132
  go_wp2_with (first
    | (at_builtin; refine wpl_append rowByte rfl _ _ rfl (v := .slice (some ⟨w.heap.size, 0, none⟩) 0 0) rfl (Own.empty tByte _ 5 w.heap.size (Nat.le_refl _)) _ _ rfl rfl (Hrd.out.ext (by decide) (ext_alloc _ _)) Hok.out (by simp; omega) (by simp) ?_; intro v1 w1 ho1 hg1 hat1; rw [List.nil_append] at ho1; have HX1 := Lib.hid ((ext_alloc w _).grown hg1 (fun k hk => Nat.le_of_eq (Option.some.inj hk))); have HO1 := Lib.hid ho1; obtain ⟨B1, bn1, bc1, rfl⟩ := ho1.shape3; clear ho1 hg1 hat1)
    | (at_builtin; refine wpl_append rowByte rfl _ _ rfl (v := .slice B1 bn1 bc1) rfl (HO1.out.alloc _) _ _ rfl (A := some ⟨w1.heap.size, 0, none⟩) (ys := [128]) rfl (rd_byte w1 128 (by decide) _) (okOne (by decide)) (by simp; omega) (HX1.out.alloc _).size ?_; intro v2 w2 ho1 hg1 hat1; have HX2 := Lib.hid ((HO1.out.alloc _).ext_app (HX1.out.alloc _) hg1); have HO2 := Lib.hid ho1; clear ho1 hg1 hat1 HX1 HO1))
  go_loopw [5] (fun o wr => ∃ z : Nat, z ≤ padZ xs.length ∧ Own tByte 5 wr w.heap.size o (xs ++ [128] ++ List.replicate z 0) ∧ Ext w wr) (fun o _ => xs.length + 40 - lenV o)
  case atStart => exact ⟨0, by omega, by rw [List.replicate_zero, List.append_nil]; exact HO2.out, HX2.out⟩
  case round =>
    clear HO2 HX2
    obtain ⟨z, hz, ho, hx⟩ := hrel
    have HX := Lib.hid hx
    have HO := Lib.hid ho
    obtain ⟨B, bn, bc, rfl⟩ := ho.shape3
    have hbn := ho.len
    simp only [List.length_append, List.length_cons, List.length_nil, List.length_replicate] at hbn
    clear hx ho
    have hp := padZ_eq xs.length
    have hbl : (bn : Int) ≤ 9223372036854775807 := by omega
    by_cases hlt : z < padZ xs.length
    · have hm : ¬ ((bn : Int) % 32 = 24) := by omega
      have hz31 : z ≤ 31 := by omega
      have HP := Lib.hid hp
      have HN := Lib.hid hbn
      clear hp hbn
      go_wp2_with (at_builtin; refine wpl_append rowByte rfl _ _ rfl (v := .slice B bn bc) rfl (HO.out.alloc _) _ _ rfl (A := some ⟨wr.heap.size, 0, none⟩) (ys := [0]) rfl (rd_byte wr (0) (by decide) _) (okOne (by decide)) (by simp; omega) (HX.out.alloc _).size ?_; intro v9 w9 ho1 hg1 hat1; have HX9 := Lib.hid ((HO.out.alloc _).ext_app (HX.out.alloc _) hg1); have HO9 := Lib.hid ho1; clear ho1 hg1 hat1)
      go_roundw
      case rel => exact ⟨z + 1, by omega, by rw [List.replicate_succ', ← List.append_assoc]; exact HO9.out, HX9.out⟩
      case measure =>
        have h1 := HO9.out.shape
        obtain ⟨_, _, rfl⟩ := h1
        have := HN.out
        have := HP.out
        simp [lenV]
        omega
    · have hm : (bn : Int) % 32 = 24 := by omega
      obtain rfl : z = padZ xs.length := by omega
      have HP := Lib.hid hp
      have HN := Lib.hid hbn
      clear hp hbn
      go_wp2_with fail
      clear hm
      go_loopw [1, 5, 6] (fun l o i wq => ∃ k : Nat, k ≤ 8 ∧ i = .int .i64 k ∧ l = .int .i64 (len / 256 ^ k) ∧ Own tByte 5 wq w.heap.size o (xs ++ [128] ++ List.replicate (padZ xs.length) 0 ++ bytesLE len k) ∧ Ext w wq) (fun _ _ i _ => 8 - (intOf i).toNat)
      case atStart => exact ⟨0, by omega, rfl, by simp, by rw [bytesLE_zero, List.append_nil]; exact HO.out, HX.out⟩
      case round =>
        clear HO HX
        obtain ⟨k, hk, rfl, rfl, ho, hx⟩ := hrel
        have HX := Lib.hid hx
        have HO := Lib.hid ho
        obtain ⟨C, cn, cc, rfl⟩ := ho.shape3
        clear hx ho
        by_cases hk8 : k < 8
        · have hd0 : 0 ≤ len / 256 ^ k := Int.ediv_nonneg h0 (Int.pow_nonneg (by decide))
          have hd1 : len / 256 ^ k ≤ len := Int.ediv_le_self _ h0
          have hs1 : len / 256 ^ (k + 1) = len / 256 ^ k / 256 := by rw [Int.pow_succ, Int.ediv_ediv_of_nonneg (Int.pow_nonneg (by decide))]
          have hs2 := bytesLE_succ len k
          generalize len / 256 ^ k = d at *
          have HS1 := Lib.hid hs1
          have HS2 := Lib.hid hs2
          have hpz : padZ xs.length ≤ 31 := by have := padZ_eq xs.length; omega
          clear hs1 hs2
          go_wp2_with (at_builtin; refine wpl_append rowByte rfl _ _ rfl (v := .slice C cn cc) rfl (HO.out.alloc _) _ _ rfl (A := some ⟨wr.heap.size, 0, none⟩) (ys := [d % 256]) rfl (rd_byte wr (d % 256) (by omega) _) (okOne (by omega)) (by simp [bytesLE_length]; omega) (HX.out.alloc _).size ?_; intro v9 w9 ho1 hg1 hat1; have HX9 := Lib.hid ((HO.out.alloc _).ext_app (HX.out.alloc _) hg1); have HO9 := Lib.hid ho1; clear ho1 hg1 hat1)
          go_roundw
          case rel => exact ⟨k + 1, by omega, by go_num, by rw [HS1.out], by rw [HS2.out, ← List.append_assoc]; exact HO9.out, HX9.out⟩
          case measure => simp [intOf]; omega
        · obtain rfl : k = 8 := by omega
          go_wp2_with fail
          go_ret
          have ho := HO.out
          rw [List.append_assoc xs, List.append_assoc xs, ← padL_eq] at ho
          exact ⟨_, rfl, ho, HX.out⟩

end Go.Proofs.Ytikpakhccmdmcaa
