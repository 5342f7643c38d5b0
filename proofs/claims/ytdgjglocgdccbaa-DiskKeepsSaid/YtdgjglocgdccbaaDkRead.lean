/- The stand-in disk: Read, Truncate; no condition but on the texts' lengths and the counts. -/
import Derived.Test.YtdgjglocgdccbaaDkNum
namespace Go.Proofs.Ytdgjglocgdccbaa
open Go.RowKit

attribute [local go_sem ↓] conv64
theorem by_of {w : World} {n0 : Nat} {g n cap : Nat} {l : List Int} (h : Bq w n0 (.slice (some ⟨g, 0, none⟩) n cap) l) (hn : l.length = n) (o k : Nat) (hk : o + k ≤ n) : byAt w g o k ∧ byRd w g o k = (l.drop o).take k := by
  subst hn
  have hc : ∀ j, j < k → w.cell? ⟨g, o + j, none⟩ = some (.int .u8 (l[o + j]?.getD 0)) := by
    intro j hj
    obtain ⟨g', o', e', hc'⟩ := bq_src h rfl (by omega)
    simp only [Option.some.injEq, Addr.mk.injEq] at e'
    obtain ⟨rfl, rfl, _⟩ := e'
    have := hc' (o + j) (.int .u8 (l[o + j]?.getD 0)) (by rw [List.getElem?_map, List.getElem?_eq_getElem (by omega)]; rfl)
    rw [Nat.zero_add] at this
    exact this
  refine ⟨fun j hj => ⟨_, hc j hj⟩, ?_⟩
  unfold byRd
  apply List.ext_getElem
  · simp; omega
  · intro j h1 h2
    have hj : j < k := by simpa using h1
    simp only [List.getElem_map, List.getElem_range, List.getElem_take, List.getElem_drop]
    rw [hc j hj, List.getElem?_eq_getElem (by omega)]
    rfl
theorem convNil (w : World) : (convert 66 9 (.slice none 0 0)).run Try.prog w = .ok (.string ⟨#[]⟩) w := by kernel_rfl
def RdPost (w : World) (p : Pl) (s : ByteArray) (a n : Int) (e : Ending) (w' : World) : Prop := e = .returned (.tuple #[.string (strOf (p.read s a n)), .int .i64 (p.readE a n)]) ∧ Kp NoB w w'
set_option maxRecDepth 100000 in
set_option maxHeartbeats 800000 in
theorem read_ok (w : World) (n0 : Nat) (x : Dd) (p : Pl) (s : ByteArray) (a n : Int) (ha : -9223372036854775808 ≤ a ∧ a ≤ 9223372036854775807) (hn : -9223372036854775808 ≤ n ∧ n ≤ 9223372036854775807) (h : Dk n0 w x) (hp : Of x p) (hs : s.size ≤ maxLen) :
    Calls Try.prog 13 #[ptrV x.db, .string s, .int .i64 a, .int .i64 n] w (RdPost w p s a n) := by
  have H := Lib.hid h
  have HP := Lib.hid hp
  have HS := Lib.hid hs
  obtain ⟨db, hdb⟩ : ∃ db, x.db = db := ⟨_, rfl⟩
  have HX := Lib.hid hdb
  obtain ⟨l, hl⟩ : ∃ l, seenOf x.fs s = l := ⟨_, rfl⟩
  have HL := Lib.hid hl
  have hsl := seen_le h s
  rw [hl] at hsl
  obtain ⟨L, hLL⟩ : ∃ L, l.length = L := ⟨_, rfl⟩
  have HLL := Lib.hid hLL
  rw [hLL] at hsl
  rw [hdb]
  rcases hdn : p.down with _ | _
  · have HDN := Lib.hid hdn
    clear h hp hs hdb hl hLL hdn
    unfold ptrV
    by_cases hneg : a < 0 ∨ n < 0
    · have HNG := Lib.hid hneg
      have fin : Hid (RdPost w p s a n (.returned (.tuple #[.string ⟨#[]⟩, .int .i64 2])) w) := Lib.hid (by
        have e1 : p.readE a n = 2 := by unfold Pl.readE; rw [HDN.out, if_neg (by simp), if_pos hneg]
        refine ⟨?_, Kp.refl _ _⟩
        unfold Pl.read
        rw [e1]
        rfl)
      rcases Int.lt_or_le a 0 with h1 | h1
      · clear hneg
        go_enter Try.func13, Try.ntmps13
        go_wp2_with (go_at_call 30; go_must (refine (show Calls _ _ #[ptrV db] _ _ by rw [← HX.out]; exact wrong_p _ n0 x p H.out HP.out false HDN.out).mono ?_); rintro e w2 ⟨rfl, rfl⟩)
        go_ret2
        exact fin.out
      · have h2 : n < 0 := by omega
        have h1' : ¬ a < 0 := by omega
        clear hneg
        go_enter Try.func13, Try.ntmps13
        go_wp2_with (go_at_call 30; go_must (refine (show Calls _ _ #[ptrV db] _ _ by rw [← HX.out]; exact wrong_p _ n0 x p H.out HP.out false HDN.out).mono ?_); rintro e w2 ⟨rfl, rfl⟩)
        go_ret2
        exact fin.out
    · have h1 : ¬ a < 0 := by omega
      have h2 : ¬ n < 0 := by omega
      have g1 : 0 ≤ a := by omega
      have g2 : 0 ≤ n := by omega
      have e1 : Hid (p.readE a n = 0) := Lib.hid (by unfold Pl.readE; rw [HDN.out, if_neg (by simp), if_neg hneg])
      have fin : Hid (∀ (W : World) t, w = W → t = (l.drop a.toNat).take n.toNat → RdPost w p s a n (.returned (.tuple #[.string (strOf t), .int .i64 0])) W) := Lib.hid (by
        rintro W t rfl rfl
        refine ⟨?_, Kp.refl _ _⟩
        unfold Pl.read
        rw [e1.out, if_pos rfl, ← HP.out.seen_eq, HL.out])
      clear hneg
      go_enter Try.func13, Try.ntmps13
      go_wp2_with (go_at_call 30; go_must (refine (show Calls _ _ #[ptrV db] _ _ by rw [← HX.out]; exact wrong_p _ n0 x p H.out HP.out false HDN.out).mono ?_); rintro e w2 ⟨rfl, rfl⟩)
      refine (show Calls _ _ #[ptrV db, .string s] _ _ by rw [← HX.out]; exact bytes_ok _ _ _ _ HS.out H.out).mono ?_
      rintro e w3 ⟨B, cap, rfl, hq, rfl⟩
      rw [HL.out] at hq
      rw [HL.out, HLL.out]
      rw [HLL.out] at hq
      have hcap : L ≤ cap := own_cap (by have := hq.own; rw [HLL.out] at this; exact this)
      rcases own_form (by have := hq.own; rw [HLL.out] at this; exact this) with ⟨rfl, rfl, rfl⟩ | ⟨g, rfl⟩
      · have hcn := convNil
        have hl0 : l = [] := List.eq_nil_of_length_eq_zero HLL.out
        have HL0 := Lib.hid hl0
        clear hq hl0
        have FIN0 := Lib.hid (fin.out w3 [] rfl (by rw [HL0.out]; simp))
        rcases (show 0 < a ∨ a = 0 by omega) with q | rfl
        · rcases (show 0 < n ∨ n = 0 by omega) with q2 | rfl
          all_goals
            go_wp2_with fail
            go_ret2
            exact FIN0.out
        · rcases (show 0 < n ∨ n = 0 by omega) with q2 | rfl
          all_goals
            go_wp2_with fail
            go_ret2
            exact FIN0.out
      · have HQ := Lib.hid hq
        clear hq
        by_cases haL : a < L
        · obtain ⟨F, hF⟩ : ∃ F : Nat, a = F := ⟨a.toNat, by omega⟩
          have HF := Lib.hid hF
          have hFt : a.toNat = F := by omega
          have hFc : ¬ cap = F := by omega
          have hFL : F < L := by omega
          have hFcap : F ≤ cap := by omega
          have haL2 : a ≤ (L : Int) := by omega
          by_cases hnk : n ≤ (L : Int) - a
          · obtain ⟨K, hK⟩ : ∃ K : Nat, n = K := ⟨n.toNat, by omega⟩
            have HK := Lib.hid hK
            have hw1 : IntKind.i64.wrap (a + n) = a + n := by rw [IntKind.wrap_i64]; omega
            have hh1 : 0 ≤ a + n := by omega
            have hh2 : a ≤ a + n := by omega
            have hh3 : (a + n).toNat = F + K := by omega
            have hh4 : a + n ≤ (cap : Int) := by omega
            have hh5 : F + K ≤ cap := by omega
            have hh6 : F + K - F = K := by omega
            have hby := by_of HQ.out HLL.out F K (by omega)
            have hb1 := hby.1
            have HB2 := Lib.hid hby.2
            clear hby hF hK
            go_wp2_with fail
            go_ret2
            have e2 : n.toNat = K := by have := HK.out; omega
            have := fin.out w3 _ rfl (show byRd w3 g F K = _ by rw [HB2.out, hFt, e2])
            exact this
          · obtain ⟨K, hK⟩ : ∃ K : Nat, (L : Int) - a = K := ⟨(L - a).toNat, by omega⟩
            have HK := Lib.hid hK
            have hw1 : IntKind.i64.wrap ((L : Int) - a) = (L : Int) - a := by rw [IntKind.wrap_i64]; omega
            have hw2 : IntKind.i64.wrap (a + ((L : Int) - a)) = (L : Int) := by rw [IntKind.wrap_i64]; omega
            have hw3 : a + ((L : Int) - a) = (L : Int) := by omega
            have hh6 : L - F = K := by omega
            have hby := by_of HQ.out HLL.out F K (by omega)
            have hb1 := hby.1
            have HB2 := Lib.hid hby.2
            have hcap2 : (L : Int) ≤ (cap : Int) := by omega
            clear hby hF hK
            go_wp2_with fail
            all_goals
              go_ret2
              have := fin.out w3 _ rfl (show byRd w3 g F K = _ by rw [HB2.out, hFt]; rw [List.take_of_length_le (by simp [HLL.out]; have := HF.out; omega), List.take_of_length_le (by simp [HLL.out]; have := HF.out; have := HK.out; omega)])
              exact this
        · have haL2 : (L : Int) ≤ a := by omega
          have hcap2 : (L : Int) ≤ (cap : Int) := by omega
          have hw1 : IntKind.i64.wrap ((L : Int) - (L : Int)) = 0 := by rw [IntKind.wrap_i64]; omega
          have hb1 : byAt w3 g 0 0 := fun j hj => absurd hj (by omega)
          have hb2 : byAt w3 g L 0 := fun j hj => absurd hj (by omega)
          have hsub : L - L = 0 := by omega
          have fin2 := fin.out w3 [] rfl (by rw [List.drop_eq_nil_of_le (by rw [HLL.out]; omega)]; simp)
          have FIN2 := Lib.hid fin2
          clear fin2
          rcases (show (L : Int) < a ∨ a = L by omega) with q | rfl
          · by_cases hcl : cap = L
            · subst hcl
              rcases (show 0 < n ∨ n = 0 by omega) with q2 | rfl
              all_goals
                go_wp2_with fail
                go_ret2
                exact FIN2.out
            · rcases (show 0 < n ∨ n = 0 by omega) with q2 | rfl
              all_goals
                go_wp2_with fail
                go_ret2
                exact FIN2.out
          · by_cases hcl : cap = L
            · subst hcl
              rcases (show 0 < n ∨ n = 0 by omega) with q2 | rfl
              all_goals
                go_wp2_with fail
                go_ret2
                exact FIN2.out
            · rcases (show 0 < n ∨ n = 0 by omega) with q2 | rfl
              all_goals
                go_wp2_with fail
                go_ret2
                exact FIN2.out
  · have HDN := Lib.hid hdn
    have fin : Hid (RdPost w p s a n (.returned (.tuple #[.string ⟨#[]⟩, .int .i64 7])) w) := Lib.hid (by
      have e1 : p.readE a n = 7 := by unfold Pl.readE; rw [HDN.out]; rfl
      refine ⟨?_, Kp.refl _ _⟩
      unfold Pl.read
      rw [e1]
      rfl)
    clear h hp hs hdb hl hLL hdn
    unfold ptrV
    go_enter Try.func13, Try.ntmps13
    go_wp2_with (go_at_call 30; go_must (refine (show Calls _ _ #[ptrV db] _ _ by rw [← HX.out]; exact wrong_p _ n0 x p H.out HP.out true HDN.out).mono ?_); rintro e w2 ⟨rfl, rfl⟩)
    go_ret2
    exact fin.out
end Go.Proofs.Ytdgjglocgdccbaa
