/- An entry struck out of a row of one's own. No condition. -/
import Derived.Test.YtabeghbobggmjaaRowE
import Derived.Test.YtabeghbobggmjaaDelS
namespace Go.Proofs.Ytabeghbobggmjaa
open Go.RowKit
set_option linter.unusedVariables false
set_option linter.unusedSimpArgs false

/-- an append whose run is known: one step of a region -/
theorem stp_appRun {P : Program} {ops : Array Oper} {o : Oper} {a : Act} {w w' : World} {K : Act → World → Prop} {Q : Exit → Act → World → Prop} {E : Prop} {t : TypeId} {v u v' : Value} (hgd : o.guard = none) (s x : Operand)
    (hop : o.op = .call { callee := .builtin .append, args := #[s, x], argTypes := #[t, t] }) (hs : a.eval s = v) (hx : a.eval x = u)
    (hrun : (Builtin.append_ #[t, t] o.type #[v, u]).run P w = .ok v' w') (h : K (a.put o.dst v') w') :
    if Region.wanted o (yielded ops a.tmps) = true then Oper.wp P o a w K Q else E := by
  have hw : Region.wanted o (yielded ops a.tmps) = true := by simp [Region.wanted, hgd]
  rw [if_pos hw]
  unfold Oper.wp execOp
  simp only [hop, resolve, invoke, builtin, Sem.run_bind, Sem.run_pure, Result.andThen_ok, List.map_toArray, List.map_cons, List.map_nil, hs, hx, hrun]
  exact h
theorem cells_of_at {cur : Array Value} {b : Nat} {ys : List En} (hat : ∀ i (hi : i < ys.length), AtE cur (b + i) ys[i]) : ∀ j u, (ys.flatMap tEnt.enc)[j]? = some u → cur[b * 2 + j]? = some u := by
  intro j u hu
  have hj := (List.getElem?_eq_some_iff.1 hu).1
  rw [flat_len] at hj
  have hi : j / 2 < ys.length := by omega
  have h1 := hat _ hi
  have h2 := flat_ent ys _ hi
  rcases Nat.mod_two_eq_zero_or_one j with h0 | h0
  · rw [show j = j / 2 * 2 by omega, h2.1] at hu
    rw [show b * 2 + j = (b + j / 2) * 2 by omega, h1.1, ← hu]
  · rw [show j = j / 2 * 2 + 1 by omega, h2.2] at hu
    rw [show b * 2 + j = (b + j / 2) * 2 + 1 by omega, h1.2, ← hu]
set_option maxHeartbeats 1000000 in
set_option maxRecDepth 100000 in
theorem sdel_any (v : Value) (xs : List En) (k : Nat) (w : World) (base : Nat) (h : Own tEnt 73 w base v xs) (hk : k < xs.length) (h64 : xs.length ≤ 64) :
    Calls Try.prog 67 #[v, .int .i64 k, .int .i64 (k + 1)] w fun q w' => ∃ v', q = .returned v' ∧ Own tEnt 73 w' base v' (xs.take k ++ xs.drop (k + 1)) ∧ w.grownBy w' v.ownBlock := by
  obtain ⟨g, cap, cur, rfl, hgb, hgl, hB, hcs, hnc, hcm, hat⟩ := at_of_own h (by omega)
  have HB := Lib.hid hB
  have HAT := Lib.hid hat
  have HOK := Lib.hid h.2.2
  have h1 : (0 : Int) ≤ (k : Int) := by omega
  have h2 : (k : Int) < (xs.length : Int) := by omega
  have h3 : (xs.length : Int) ≤ (cap : Int) := by omega
  have h4 : (k : Int) ≤ (cap : Int) := by omega
  have h5 : (k : Int) + 1 ≤ (xs.length : Int) := by omega
  have h6 : (k : Int) + 1 ≤ (cap : Int) := by omega
  have h7 : (k : Int) ≤ (k : Int) + 1 := by omega
  have h8 : ((k : Int) == (k : Int) + 1) = false := by rw [beq_eq_false_iff_ne]; omega
  have h9 : (0 : Int) ≤ (k : Int) + 1 := by omega
  clear hB hat h
  go_enter Try.func67, Try.ntmps67
  go_wp2
  obtain ⟨news, hnews⟩ : ∃ news, (xs.drop (k + 1)).flatMap tEnt.enc = news := ⟨_, rfl⟩
  have hnl : news.length = (xs.length - (k + 1)) * 2 := by rw [← hnews, flat_len, List.length_drop]
  have hone : ∀ u ∈ news, u.oneCell' = true := by
    intro u hu
    rw [← hnews] at hu
    obtain ⟨x, _, hx⟩ := List.mem_flatMap.1 hu
    simp [tEnt] at hx
    rcases hx with rfl | rfl <;> rfl
  have hcel : ∀ j u, news[j]? = some u → cur[(k + 1) * 2 + j]? = some u := by
    rw [← hnews]
    refine cells_of_at (fun i hi => ?_)
    rw [List.length_drop] at hi
    rw [List.getElem_drop]
    exact HAT.out _ _
  have hrun : ∀ W, Blk W g 73 cur → ∀ ty c, (Builtin.append_ #[42, 42] ty #[.slice (some ⟨g, 0, none⟩) k cap, .slice (if cap = k + 1 then some ⟨g, 0, none⟩ else some ⟨g, (k + 1) * 2, none⟩) (xs.length - (k + 1)) c]).run Try.prog W = .ok (.slice (some ⟨g, 0, none⟩) (k + (xs.length - (k + 1))) cap) (W.setRow g (splice cur (k * 2) news)) := by
    intro W hW ty c
    obtain ⟨i, z, hi, hz, hsz, _⟩ := rowEnt.info
    have hi2 : i.size = 2 := hsz
    by_cases e : cap = k + 1
    · rw [if_pos e]
      have := run_append_room (P := Try.prog) W 42 ty 73 i Try.underlying42 hi g k cap cur hW ⟨g, 0, none⟩ (xs.length - (k + 1)) c news (by rw [hnl, hi2]) (fun j u hu => by have := (List.getElem?_eq_some_iff.1 hu).1; omega) hone (by omega) (by rw [hnl, hi2, hcs]; omega)
      rw [hi2] at this
      exact this
    · rw [if_neg e]
      have := run_append_room (P := Try.prog) W 42 ty 73 i Try.underlying42 hi g k cap cur hW ⟨g, (k + 1) * 2, none⟩ (xs.length - (k + 1)) c news (by rw [hnl, hi2]) (fun j u hu => by rw [Addr.add_lit, hW.cell]; exact hcel j u hu) hone (by omega) (by rw [hnl, hi2, hcs]; omega)
      rw [hi2] at this
      exact this
  have HRUN := Lib.hid hrun
  clear hrun
  refine wp_region_held_drew (S := fun W => w.grownBy W (some g)) (by kernel_rfl) (ext_grown _ (Ext.refl _).drew) (fun hHeld => ?_)
  have HB0 := Lib.hid (show Blk w.drew g 73 cur from HB.out)
  generalize w.drew = w0 at hHeld HB0 ⊢
  refine wpAnyH_take (i := 0) (oi := ?oiz1) (v := ?vz1) ?hiz1 (by kernel_rfl) (by kernel_rfl) (by kernel_rfl) ?hQz1 ?hyz1 (by assumption) ?restz1
  case hiz1 => simp only [List.getElem?_toArray, List.getElem?_cons_zero, List.getElem?_cons_succ]; rfl
  case hQz1 => exact fun _ _ _ h => h
  case hyz1 => exact Or.inl ⟨by rfl, by intro w hSw; (try dsimp only at hSw); go_simp; with_reducible rfl⟩
  try simp only [Act.put, List.setIfInBounds_toArray, List.set_cons_zero, List.set_cons_succ]
  refine wpAnyH_take (i := 1) (oi := ?oiz2) (v := ?vz2) ?hiz2 (by kernel_rfl) (by kernel_rfl) (by kernel_rfl) ?hQz2 ?hyz2 (by assumption) ?restz2
  case hiz2 => simp only [List.getElem?_toArray, List.getElem?_cons_zero, List.getElem?_cons_succ]; rfl
  case hQz2 => exact fun _ _ _ h => h
  case hyz2 => exact Or.inl ⟨by rfl, by intro w hSw; (try dsimp only at hSw); go_simp; with_reducible rfl⟩
  try simp only [Act.put, List.setIfInBounds_toArray, List.set_cons_zero, List.set_cons_succ]
  refine wpAnyH_take (i := 2) (oi := ?oiz3) (v := ?vz3) ?hiz3 (by kernel_rfl) (by kernel_rfl) (by kernel_rfl) ?hQz3 ?hyz3 (by assumption) ?restz3
  case hiz3 => simp only [List.getElem?_toArray, List.getElem?_cons_zero, List.getElem?_cons_succ]; rfl
  case hQz3 => exact fun _ _ _ h => h
  case hyz3 => exact Or.inl ⟨by rfl, by intro w hSw; (try dsimp only at hSw); go_simp; with_reducible rfl⟩
  try simp only [Act.put, List.setIfInBounds_toArray, List.set_cons_zero, List.set_cons_succ]
  refine wpAnyH_take (i := 3) (oi := ?oiz4) (v := ?vz4) ?hiz4 (by kernel_rfl) (by kernel_rfl) (by kernel_rfl) ?hQz4 ?hyz4 (by assumption) ?restz4
  case hiz4 => simp only [List.getElem?_toArray, List.getElem?_cons_zero, List.getElem?_cons_succ]; rfl
  case hQz4 => exact fun _ _ _ h => h
  case hyz4 => exact Or.inl ⟨by rfl, by intro w hSw; (try dsimp only at hSw); go_simp; with_reducible rfl⟩
  try simp only [Act.put, List.setIfInBounds_toArray, List.set_cons_zero, List.set_cons_succ]
  refine wpAnyH_take (i := 4) (oi := ?oiz5) (v := ?vz5) ?hiz5 (by kernel_rfl) (by kernel_rfl) (by kernel_rfl) ?hQz5 ?hyz5 (by assumption) ?restz5
  case hiz5 => simp only [List.getElem?_toArray, List.getElem?_cons_zero, List.getElem?_cons_succ]; rfl
  case hQz5 => exact fun _ _ _ h => h
  case hyz5 => exact Or.inl ⟨by rfl, by intro w hSw; (try dsimp only at hSw); go_simp; with_reducible rfl⟩
  try simp only [Act.put, List.setIfInBounds_toArray, List.set_cons_zero, List.set_cons_succ]
  refine wpAnyH_take (i := 5) (oi := ?oiz6) (v := ?vz6) ?hiz6 (by kernel_rfl) (by kernel_rfl) (by kernel_rfl) ?hQz6 ?hyz6 (by assumption) ?restz6
  case hiz6 => simp only [List.getElem?_toArray, List.getElem?_cons_zero, List.getElem?_cons_succ]; rfl
  case hQz6 => exact fun _ _ _ h => h
  case hyz6 => exact Or.inl ⟨by rfl, by intro w hSw; (try dsimp only at hSw); go_simp; with_reducible rfl⟩
  try simp only [Act.put, List.setIfInBounds_toArray, List.set_cons_zero, List.set_cons_succ]
  refine wpAnyH_ready (rs := [6]) (by kernel_rfl) (by simp) (AllReadyH.cons (o := ?oy76) ?hy76 (fun K hK => ?sy76) AllReadyH.nil)
  case hy76 => simp only [List.getElem?_toArray, List.getElem?_cons_zero, List.getElem?_cons_succ]; rfl
  refine stp_appRun rfl (.tmp 22) (.tmp 25) rfl rfl rfl (HRUN.out w0 HB0.out _ _) ?_
  have hH2 := grown_row hHeld (g := g) (splice cur (k * 2) news)
  have HB1 := Lib.hid (HB0.out.setRow (splice cur (k * 2) news))
  refine hK.out _ _ hH2 (fun _ => ?_)
  clear hHeld hK K HB0
  have hHeld := hH2
  clear hH2
  try simp only [Act.put, List.setIfInBounds_toArray, List.set_cons_zero, List.set_cons_succ]
  refine wpAnyH_take (i := 7) (oi := ?oiz8) (v := ?vz8) ?hiz8 (by kernel_rfl) (by kernel_rfl) (by kernel_rfl) ?hQz8 ?hyz8 (by assumption) ?restz8
  case hiz8 => simp only [List.getElem?_toArray, List.getElem?_cons_zero, List.getElem?_cons_succ]; rfl
  case hQz8 => exact fun _ _ _ h => h
  case hyz8 => exact Or.inl ⟨by rfl, by intro w hSw; (try dsimp only at hSw); go_simp; with_reducible rfl⟩
  try simp only [Act.put, List.setIfInBounds_toArray, List.set_cons_zero, List.set_cons_succ]
  refine wpAnyH_done (by kernel_rfl) ?_ _
  obtain ⟨m, hm⟩ : ∃ m, k + (xs.length - (k + 1)) = m := ⟨_, rfl⟩
  have hm2 : m + 1 = xs.length := by omega
  simp only [hm]
  generalize (if cap = k + 1 then (some (⟨g, 0, none⟩ : Addr)) else some (⟨g, (k + 1) * 2, none⟩ : Addr)) = junk
  have hssz : (splice cur (k * 2) news).size = cap * 2 := by rw [splice_size _ _ _ (by rw [hnl, hcs]; omega), hcs]
  obtain ⟨cs, hcs1, hcs2, hcl⟩ := run_clearE (off := m * 2) (n := xs.length - m) (by omega) HB1.out (by rw [hssz]; omega)
  have HS2 := Lib.hid hcs2
  have HG := Lib.hid hHeld
  have m1 : (0 : Int) ≤ (m : Int) := by omega
  have m2 : (m : Int) ≤ (xs.length : Int) := by omega
  have m3 : (m : Int) ≤ (cap : Int) := by omega
  have m4 : ¬ cap = m := by omega
  have HN := Lib.hid hnews
  have HCS := Lib.hid hcs1
  clear hcs2 hHeld hone hcel HRUN hm hnews hcs1
  go_wp2
  go_ret
  have hlen : (xs.take k ++ xs.drop (k + 1)).length = m := by rw [List.length_append, List.length_take, List.length_drop]; omega
  have hat : ∀ i (hi : i < (xs.take k ++ xs.drop (k + 1)).length), AtE cs i (xs.take k ++ xs.drop (k + 1))[i] := by
    intro i hi
    rw [hlen] at hi
    have hsp : k * 2 + news.length ≤ cur.size := by rw [hnl, hcs]; omega
    by_cases hik : i < k
    · have e : (xs.take k ++ xs.drop (k + 1))[i] = xs[i] := by rw [List.getElem_append_left (by rw [List.length_take]; omega), List.getElem_take]
      rw [e]
      refine ⟨?_, ?_⟩
      · rw [HS2.out _ (by omega), splice_out _ _ _ hsp _ (.inl (by omega))]; exact (HAT.out i (by omega)).1
      · rw [HS2.out _ (by omega), splice_out _ _ _ hsp _ (.inl (by omega))]; exact (HAT.out i (by omega)).2
    · have hil : i - k < (xs.drop (k + 1)).length := by rw [List.length_drop]; omega
      have e : (xs.take k ++ xs.drop (k + 1))[i] = (xs.drop (k + 1))[i - k] := by
        rw [List.getElem_append_right (by rw [List.length_take]; omega)]
        congr 1
        rw [List.length_take]
        omega
      have hf := flat_ent (xs.drop (k + 1)) (i - k) hil
      rw [HN.out] at hf
      rw [e]
      refine ⟨?_, ?_⟩
      · rw [HS2.out _ (by omega), show i * 2 = k * 2 + (i - k) * 2 by omega, splice_in _ _ _ hsp _ (by rw [hnl]; omega)]; exact hf.1
      · rw [HS2.out _ (by omega), show i * 2 + 1 = k * 2 + ((i - k) * 2 + 1) by omega, splice_in _ _ _ hsp _ (by rw [hnl]; omega)]; exact hf.2
  refine ⟨_, rfl, ?_, grown_row HG.out _⟩
  have := own_of_at (base := base) (cap := cap) (HB1.out.setRow cs) hgb (by rw [HCS.out, hssz]) (by rw [hlen]; omega) hcm (by rw [hlen]; omega) (fun x hx => by
    rcases List.mem_append.1 hx with hx | hx
    · exact HOK.out x (List.mem_of_mem_take hx)
    · exact HOK.out x (List.mem_of_mem_drop hx)) hat
  rw [hlen] at this
  exact this
end Go.Proofs.Ytabeghbobggmjaa
