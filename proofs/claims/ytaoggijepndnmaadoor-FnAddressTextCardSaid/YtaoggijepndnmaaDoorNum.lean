/- The reference's number of a decimal text. Asked: a text of at most 2 to the 20 bytes. -/
import Derived.Test.YtaoggijepndnmaaDoorCutS
namespace Go.Proofs.YtaoggijepndnmaaDoor
set_option linter.unusedVariables false
open Go.ChangeShapes Go.WideShapes Go.ChangeAt Go.RowKit
/-- the number that the first bytes spell -/
def numB (s : ByteArray) : Nat → Nat
  | 0 => 0
  | i + 1 => numB s i * 10 + ((s.get! i).toNat - 48)
theorem numB_succ (s : ByteArray) (i : Nat) : numB s (i + 1) = numB s i * 10 + ((s.get! i).toNat - 48) := rfl
theorem numB_lt (s : ByteArray) : ∀ j, (∀ k, k < j → 48 ≤ (s.get! k).toNat ∧ (s.get! k).toNat ≤ 57) → numB s j < 10 ^ j
  | 0, _ => by simp [numB]
  | j + 1, h => by
    have h1 := numB_lt s j (fun k hk => h k (by omega))
    have h2 := h j (by omega)
    rw [numB_succ, Nat.pow_succ]
    omega
/-- a canonical numeral without a sign -/
def DigB (s : ByteArray) : Prop := 1 ≤ s.size ∧ s.size ≤ 17 ∧ (∀ i, i < s.size → 48 ≤ (s.get! i).toNat ∧ (s.get! i).toNat ≤ 57) ∧ (s.size = 1 ∨ (s.get! 0).toNat ≠ 48)
def NumP (s : ByteArray) (e : Ending) : Prop := ∃ n b, e = .returned (.tuple #[.int .i64 n, .bool b]) ∧ (DigB s → n = (numB s s.size : Nat) ∧ b = true)
set_option maxHeartbeats 1000000 in
theorem spec_l12Num (s : ByteArray) (hs : s.size ≤ 1048576) (w : World) : Calls Tryd.prog 16 #[.string s] w fun e w' => NumP s e ∧ Below w.heap.size w w' := by
  by_cases h0 : s.size = 0
  · go_enter Tryd.func16, Tryd.ntmps16
    go_wp2
    refine bodyPost_ret (v := .tuple #[.int .i64 0, .bool false]) (by simp [results, Tryd.results16, go_sem, *]) rfl ?_
    exact ⟨⟨_, _, rfl, fun h => absurd h.1 (by omega)⟩, Below.refl _ _⟩
  have g0 : s.get! 0 = s[0] := get!_of_lt s 0 (by omega)
  have p0 : 0 < s.size := by omega
  by_cases hm : s[0].toNat = 45
  · have hm' : ((s[0].toNat : Int) == 45) = true := beq_iff_eq.2 (by omega)
    have hD : ¬ DigB s := fun h => by have := (h.2.2.1 0 p0).1; rw [g0, hm] at this; omega
    have hD' := Lib.hid hD
    clear hD hm g0
    obtain ⟨t, ht⟩ : ∃ t, s.extract 1 s.size = t := ⟨_, rfl⟩
    have hts : t.size = s.size - 1 := by rw [← ht]; simp
    have hts' : s.size - 1 = t.size := hts.symm
    have hts2 : t.size ≤ 1048576 := by omega
    clear hts
    have c1 : (1 : Int) ≤ ↑s.size := by omega
    by_cases z : t.size = 0
    · go_enter Tryd.func16, Tryd.ntmps16
      go_wp2
      refine bodyPost_ret (v := .tuple #[.int .i64 0, .bool false]) (by simp [results, Tryd.results16, go_sem, *]) rfl ?_
      exact ⟨⟨_, _, rfl, fun h => absurd h hD'.out⟩, Below.refl _ _⟩
    by_cases z17 : 17 < t.size
    · have z17' : (17 : Int) < t.size := by omega
      go_enter Tryd.func16, Tryd.ntmps16
      go_wp2
      refine bodyPost_ret (v := .tuple #[.int .i64 0, .bool false]) (by simp [results, Tryd.results16, go_sem, *]) rfl ?_
      exact ⟨⟨_, _, rfl, fun h => absurd h hD'.out⟩, Below.refl _ _⟩
    have z17' : ¬ (17 : Int) < t.size := by omega
    have tp : 0 < t.size := by omega
    by_cases z48 : t[0].toNat = 48
    · have z48' : ((t[0].toNat : Int) == 48) = true := beq_iff_eq.2 (by omega)
      go_enter Tryd.func16, Tryd.ntmps16
      go_wp2
      all_goals (refine bodyPost_ret (v := .tuple #[.int .i64 0, .bool false]) (by simp [results, Tryd.results16, go_sem, *]) rfl ?_)
      all_goals exact ⟨⟨_, _, rfl, fun h => absurd h hD'.out⟩, Below.refl _ _⟩
    have z48' : ((t[0].toNat : Int) == 48) = false := beq_eq_false_iff_ne.2 (by omega)
    go_enter Tryd.func16, Tryd.ntmps16
    go_wp2
    go_loopw [5, 6] (fun n i wr => ∃ j : Nat, j ≤ t.size ∧ i = .int .i64 j ∧ n = .int .i64 (numB t j : Nat) ∧ (∀ k, k < j → 48 ≤ (t.get! k).toNat ∧ (t.get! k).toNat ≤ 57) ∧ wr = w) (fun _ i _ => t.size - (intOf i).toNat)
    case atStart => exact ⟨0, by omega, rfl, rfl, fun i hi => absurd hi (Nat.not_lt_zero i), rfl⟩
    case round =>
      obtain ⟨j, hj, rfl, rfl, hne, rfl⟩ := hrel
      have HNe := Lib.hid hne
      have hb := numB_lt t j hne
      have hb2 : 10 ^ j ≤ 10 ^ 17 := Nat.pow_le_pow_right (by decide) (by omega)
      have hb3 : numB t j < 100000000000000000 := Nat.lt_of_lt_of_le hb hb2
      have HS := Lib.hid (numB_succ t j)
      obtain ⟨N, hN⟩ : ∃ N, numB t j = N := ⟨_, rfl⟩
      rw [hN] at hb3 HS ⊢
      have HN := Lib.hid hN
      clear hne hb hb2 hN
      by_cases hlt : j < t.size
      · have hget : t.get! j = t[j] := get!_of_lt t j hlt
        have HG := Lib.hid hget
        by_cases hd : 48 ≤ t[j].toNat ∧ t[j].toNat ≤ 57
        · obtain ⟨d, hd'⟩ : ∃ d : Nat, t[j].toNat = d + 48 := ⟨t[j].toNat - 48, by omega⟩
          have d9 : d ≤ 9 := by omega
          have HD := Lib.hid hd'
          have hdi : (t[j].toNat : Int) = (d : Int) + 48 := by omega
          clear hget hd hd'
          go_wp2
          case roundEnd =>
            refine ⟨⟨j + 1, by omega, by simp, ?_, ?_, by trivial⟩, by simp [intOf]; omega⟩
            · have h1 := HS.out
              rw [HG.out, HD.out] at h1
              first | (congr 1; omega) | (simp; omega)
            · intro k hk
              rcases Nat.lt_or_ge k j with h | h
              · exact HNe.out k h
              · obtain rfl : k = j := by omega
                rw [HG.out, HD.out]
                omega
        · have hx : (((t[j].toNat : Int) < 48) ∨ (¬ ((t[j].toNat : Int) < 48) ∧ (57 < (t[j].toNat : Int)))) := by omega
          have hdd := hd
          clear hd hget
          rcases hx with hx | ⟨hx, hx2⟩
          · go_wp2
            all_goals (refine bodyPost_ret (v := .tuple #[.int .i64 0, .bool false]) (by simp [results, Tryd.results16, go_sem, *]) rfl ?_)
            all_goals exact ⟨⟨_, _, rfl, fun h => absurd h hD'.out⟩, Below.refl _ _⟩
          · go_wp2
            all_goals (refine bodyPost_ret (v := .tuple #[.int .i64 0, .bool false]) (by simp [results, Tryd.results16, go_sem, *]) rfl ?_)
            all_goals exact ⟨⟨_, _, rfl, fun h => absurd h hD'.out⟩, Below.refl _ _⟩
      · obtain rfl : j = t.size := by omega
        go_wp2
        all_goals (refine bodyPost_ret (v := .tuple #[.int .i64 (-(N : Int)), .bool true]) (by simp [results, Tryd.results16, go_sem, *]) rfl ?_)
        all_goals exact ⟨⟨_, _, rfl, fun h => absurd h hD'.out⟩, Below.refl _ _⟩
  · have hm' : ((s[0].toNat : Int) == 45) = false := beq_eq_false_iff_ne.2 (by omega)
    clear hm
    by_cases z17 : 17 < s.size
    · have z17' : (17 : Int) < s.size := by omega
      go_enter Tryd.func16, Tryd.ntmps16
      go_wp2
      refine bodyPost_ret (v := .tuple #[.int .i64 0, .bool false]) (by simp [results, Tryd.results16, go_sem, *]) rfl ?_
      exact ⟨⟨_, _, rfl, fun h => (absurd h.2.1 (by omega))⟩, Below.refl _ _⟩
    have z17' : ¬ (17 : Int) < s.size := by omega
    by_cases z48 : s[0].toNat = 48 ∧ 1 < s.size
    · have z48' : ((s[0].toNat : Int) == 48) = true := beq_iff_eq.2 (by omega)
      have z1 : (1 : Int) < s.size := by omega
      go_enter Tryd.func16, Tryd.ntmps16
      go_wp2
      all_goals (refine bodyPost_ret (v := .tuple #[.int .i64 0, .bool false]) (by simp [results, Tryd.results16, go_sem, *]) rfl ?_)
      all_goals exact ⟨⟨_, _, rfl, fun h => by rcases h.2.2.2 with h | h; (exact absurd h (by omega)); (rw [g0] at h; exact absurd z48.1 h)⟩, Below.refl _ _⟩
    have z48' : (((s[0].toNat : Int) == 48) = true ∧ ¬ (1 : Int) < s.size) ∨ ((s[0].toNat : Int) == 48) = false := by
      by_cases h : s[0].toNat = 48
      · exact Or.inl ⟨beq_iff_eq.2 (by omega), by omega⟩
      · exact Or.inr (beq_eq_false_iff_ne.2 (by omega))
    rcases z48' with ⟨z48', z1⟩ | z48'
    · go_enter Tryd.func16, Tryd.ntmps16
      go_wp2
      go_loopw [5, 6] (fun n i wr => ∃ j : Nat, j ≤ s.size ∧ i = .int .i64 j ∧ n = .int .i64 (numB s j : Nat) ∧ (∀ k, k < j → 48 ≤ (s.get! k).toNat ∧ (s.get! k).toNat ≤ 57) ∧ wr = w) (fun _ i _ => s.size - (intOf i).toNat)
      case atStart => exact ⟨0, by omega, rfl, rfl, fun i hi => absurd hi (Nat.not_lt_zero i), rfl⟩
      case round =>
        obtain ⟨j, hj, rfl, rfl, hne, rfl⟩ := hrel
        have HNe := Lib.hid hne
        have hb := numB_lt s j hne
        have hb2 : 10 ^ j ≤ 10 ^ 17 := Nat.pow_le_pow_right (by decide) (by omega)
        have hb3 : numB s j < 100000000000000000 := Nat.lt_of_lt_of_le hb hb2
        have HS := Lib.hid (numB_succ s j)
        obtain ⟨N, hN⟩ : ∃ N, numB s j = N := ⟨_, rfl⟩
        rw [hN] at hb3 HS ⊢
        have HN := Lib.hid hN
        clear hne hb hb2 hN
        by_cases hlt : j < s.size
        · have hget : s.get! j = s[j] := get!_of_lt s j hlt
          have HG := Lib.hid hget
          by_cases hd : 48 ≤ s[j].toNat ∧ s[j].toNat ≤ 57
          · obtain ⟨d, hd'⟩ : ∃ d : Nat, s[j].toNat = d + 48 := ⟨s[j].toNat - 48, by omega⟩
            have d9 : d ≤ 9 := by omega
            have HD := Lib.hid hd'
            have hdi : (s[j].toNat : Int) = (d : Int) + 48 := by omega
            clear hget hd hd'
            go_wp2
            case roundEnd =>
              refine ⟨⟨j + 1, by omega, by simp, ?_, ?_, by trivial⟩, by simp [intOf]; omega⟩
              · have h1 := HS.out
                rw [HG.out, HD.out] at h1
                first | (congr 1; omega) | (simp; omega)
              · intro k hk
                rcases Nat.lt_or_ge k j with h | h
                · exact HNe.out k h
                · obtain rfl : k = j := by omega
                  rw [HG.out, HD.out]
                  omega
          · have hx : (((s[j].toNat : Int) < 48) ∨ (¬ ((s[j].toNat : Int) < 48) ∧ (57 < (s[j].toNat : Int)))) := by omega
            have hdd := hd
            clear hd hget
            rcases hx with hx | ⟨hx, hx2⟩
            · go_wp2
              all_goals (refine bodyPost_ret (v := .tuple #[.int .i64 0, .bool false]) (by simp [results, Tryd.results16, go_sem, *]) rfl ?_)
              all_goals exact ⟨⟨_, _, rfl, fun h => absurd (h.2.2.1 j hlt) (by rw [HG.out]; exact hdd)⟩, Below.refl _ _⟩
            · go_wp2
              all_goals (refine bodyPost_ret (v := .tuple #[.int .i64 0, .bool false]) (by simp [results, Tryd.results16, go_sem, *]) rfl ?_)
              all_goals exact ⟨⟨_, _, rfl, fun h => absurd (h.2.2.1 j hlt) (by rw [HG.out]; exact hdd)⟩, Below.refl _ _⟩
        · obtain rfl : j = s.size := by omega
          go_wp2
          all_goals (refine bodyPost_ret (v := .tuple #[.int .i64 (N : Int), .bool true]) (by simp [results, Tryd.results16, go_sem, *]) rfl ?_)
          all_goals exact ⟨⟨_, _, rfl, fun h => ⟨by rw [HN.out], rfl⟩⟩, Below.refl _ _⟩
    · go_enter Tryd.func16, Tryd.ntmps16
      go_wp2
      go_loopw [5, 6] (fun n i wr => ∃ j : Nat, j ≤ s.size ∧ i = .int .i64 j ∧ n = .int .i64 (numB s j : Nat) ∧ (∀ k, k < j → 48 ≤ (s.get! k).toNat ∧ (s.get! k).toNat ≤ 57) ∧ wr = w) (fun _ i _ => s.size - (intOf i).toNat)
      case atStart => exact ⟨0, by omega, rfl, rfl, fun i hi => absurd hi (Nat.not_lt_zero i), rfl⟩
      case round =>
        obtain ⟨j, hj, rfl, rfl, hne, rfl⟩ := hrel
        have HNe := Lib.hid hne
        have hb := numB_lt s j hne
        have hb2 : 10 ^ j ≤ 10 ^ 17 := Nat.pow_le_pow_right (by decide) (by omega)
        have hb3 : numB s j < 100000000000000000 := Nat.lt_of_lt_of_le hb hb2
        have HS := Lib.hid (numB_succ s j)
        obtain ⟨N, hN⟩ : ∃ N, numB s j = N := ⟨_, rfl⟩
        rw [hN] at hb3 HS ⊢
        have HN := Lib.hid hN
        clear hne hb hb2 hN
        by_cases hlt : j < s.size
        · have hget : s.get! j = s[j] := get!_of_lt s j hlt
          have HG := Lib.hid hget
          by_cases hd : 48 ≤ s[j].toNat ∧ s[j].toNat ≤ 57
          · obtain ⟨d, hd'⟩ : ∃ d : Nat, s[j].toNat = d + 48 := ⟨s[j].toNat - 48, by omega⟩
            have d9 : d ≤ 9 := by omega
            have HD := Lib.hid hd'
            have hdi : (s[j].toNat : Int) = (d : Int) + 48 := by omega
            clear hget hd hd'
            go_wp2
            case roundEnd =>
              refine ⟨⟨j + 1, by omega, by simp, ?_, ?_, by trivial⟩, by simp [intOf]; omega⟩
              · have h1 := HS.out
                rw [HG.out, HD.out] at h1
                first | (congr 1; omega) | (simp; omega)
              · intro k hk
                rcases Nat.lt_or_ge k j with h | h
                · exact HNe.out k h
                · obtain rfl : k = j := by omega
                  rw [HG.out, HD.out]
                  omega
          · have hx : (((s[j].toNat : Int) < 48) ∨ (¬ ((s[j].toNat : Int) < 48) ∧ (57 < (s[j].toNat : Int)))) := by omega
            have hdd := hd
            clear hd hget
            rcases hx with hx | ⟨hx, hx2⟩
            · go_wp2
              all_goals (refine bodyPost_ret (v := .tuple #[.int .i64 0, .bool false]) (by simp [results, Tryd.results16, go_sem, *]) rfl ?_)
              all_goals exact ⟨⟨_, _, rfl, fun h => absurd (h.2.2.1 j hlt) (by rw [HG.out]; exact hdd)⟩, Below.refl _ _⟩
            · go_wp2
              all_goals (refine bodyPost_ret (v := .tuple #[.int .i64 0, .bool false]) (by simp [results, Tryd.results16, go_sem, *]) rfl ?_)
              all_goals exact ⟨⟨_, _, rfl, fun h => absurd (h.2.2.1 j hlt) (by rw [HG.out]; exact hdd)⟩, Below.refl _ _⟩
        · obtain rfl : j = s.size := by omega
          go_wp2
          all_goals (refine bodyPost_ret (v := .tuple #[.int .i64 (N : Int), .bool true]) (by simp [results, Tryd.results16, go_sem, *]) rfl ?_)
          all_goals exact ⟨⟨_, _, rfl, fun h => ⟨by rw [HN.out], rfl⟩⟩, Below.refl _ _⟩
end Go.Proofs.YtaoggijepndnmaaDoor
