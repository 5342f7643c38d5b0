/- Texts of this proof, one behind the other: lemmas and contracts; each says its own conditions. -/
import Derived.Test.YtegcbdfilkecpaaM2
import Derived.Lib.SliceRun
/- The stand-in disk: Read, Truncate; no condition but on the texts' lengths and the counts. -/
namespace Go.Proofs.Ytegcbdfilkecpaa
open Go.RowKit

attribute [local go_sem ↓] conv64
theorem by_of {w : World} {n0 : Nat} {g n cap : Nat} {l : List Int} (h : Bq w n0 (.slice (some ⟨g, 0, none⟩) n cap) l) (hn : l.length = n) (o k : Nat) (hk : o + k ≤ n) : byAt w g o k ∧ byRd w g o k = (l.drop o).take k := by
  subst hn
  have hc : ∀ j, j < k → w.cell? ⟨g, o + j, none⟩ = some (.int .u8 (l[o + j]?.getD 0)) := by
    intro j hj
    obtain ⟨g', o', e', hc'⟩ := bq_src h rfl (by omega)
    simp only [Option.some.injEq, Addr.mk.injEq] at e'
    obtain ⟨rfl, rfl, _⟩ := e'
    have := hc' (o + j) (.int .u8 (l[o + j]?.getD 0)) (by rw [List.getElem?_map, List.getElem?_eq_getElem (by omega)]; rfl)
    rw [Nat.zero_add] at this
    exact this
  refine ⟨fun j hj => ⟨_, hc j hj⟩, ?_⟩
  unfold byRd
  apply List.ext_getElem
  · simp; omega
  · intro j h1 h2
    have hj : j < k := by simpa using h1
    simp only [List.getElem_map, List.getElem_range, List.getElem_take, List.getElem_drop]
    rw [hc j hj, List.getElem?_eq_getElem (by omega)]
    rfl
theorem convNil (w : World) : (convert 42 9 (.slice none 0 0)).run Try.prog w = .ok (.string ⟨#[]⟩) w := by kernel_rfl
def RdPost (w : World) (p : Pl) (s : ByteArray) (a n : Int) (e : Ending) (w' : World) : Prop := e = .returned (.tuple #[.string (strOf (p.read s a n)), .int .i64 (p.readE a n)]) ∧ Kp NoB w w'
set_option maxRecDepth 100000 in
set_option maxHeartbeats 800000 in
theorem read_ok (w : World) (n0 : Nat) (x : Dd) (p : Pl) (s : ByteArray) (a n : Int) (ha : -9223372036854775808 ≤ a ∧ a ≤ 9223372036854775807) (hn : -9223372036854775808 ≤ n ∧ n ≤ 9223372036854775807) (h : Dk n0 w x) (hp : Of x p) (hs : s.size ≤ maxLen) :
    Calls Try.prog 28 #[ptrV x.db, .string s, .int .i64 a, .int .i64 n] w (RdPost w p s a n) := by
  have H := Lib.hid h
  have HP := Lib.hid hp
  have HS := Lib.hid hs
  obtain ⟨db, hdb⟩ : ∃ db, x.db = db := ⟨_, rfl⟩
  have HX := Lib.hid hdb
  obtain ⟨l, hl⟩ : ∃ l, seenOf x.fs s = l := ⟨_, rfl⟩
  have HL := Lib.hid hl
  have hsl := seen_le h s
  rw [hl] at hsl
  obtain ⟨L, hLL⟩ : ∃ L, l.length = L := ⟨_, rfl⟩
  have HLL := Lib.hid hLL
  rw [hLL] at hsl
  rw [hdb]
  rcases hdn : p.down with _ | _
  · have HDN := Lib.hid hdn
    clear h hp hs hdb hl hLL hdn
    unfold ptrV
    by_cases hneg : a < 0 ∨ n < 0
    · have HNG := Lib.hid hneg
      have fin : Hid (RdPost w p s a n (.returned (.tuple #[.string ⟨#[]⟩, .int .i64 2])) w) := Lib.hid (by
        have e1 : p.readE a n = 2 := by unfold Pl.readE; rw [HDN.out, if_neg (by simp), if_pos hneg]
        refine ⟨?_, Kp.refl _ _⟩
        unfold Pl.read
        rw [e1]
        rfl)
      rcases Int.lt_or_le a 0 with h1 | h1
      · clear hneg
        go_enter Try.func28, Try.ntmps28
        go_wp2_with (go_at_call 80; go_must (refine (show Calls _ _ #[ptrV db] _ _ by rw [← HX.out]; exact wrong_p _ n0 x p H.out HP.out false HDN.out).mono ?_); rintro e w2 ⟨rfl, rfl⟩)
        go_ret2
        exact fin.out
      · have h2 : n < 0 := by omega
        have h1' : ¬ a < 0 := by omega
        clear hneg
        go_enter Try.func28, Try.ntmps28
        go_wp2_with (go_at_call 80; go_must (refine (show Calls _ _ #[ptrV db] _ _ by rw [← HX.out]; exact wrong_p _ n0 x p H.out HP.out false HDN.out).mono ?_); rintro e w2 ⟨rfl, rfl⟩)
        go_ret2
        exact fin.out
    · have h1 : ¬ a < 0 := by omega
      have h2 : ¬ n < 0 := by omega
      have g1 : 0 ≤ a := by omega
      have g2 : 0 ≤ n := by omega
      have e1 : Hid (p.readE a n = 0) := Lib.hid (by unfold Pl.readE; rw [HDN.out, if_neg (by simp), if_neg hneg])
      have fin : Hid (∀ (W : World) t, w = W → t = (l.drop a.toNat).take n.toNat → RdPost w p s a n (.returned (.tuple #[.string (strOf t), .int .i64 0])) W) := Lib.hid (by
        rintro W t rfl rfl
        refine ⟨?_, Kp.refl _ _⟩
        unfold Pl.read
        rw [e1.out, if_pos rfl, ← HP.out.seen_eq, HL.out])
      clear hneg
      go_enter Try.func28, Try.ntmps28
      go_wp2_with (go_at_call 80; go_must (refine (show Calls _ _ #[ptrV db] _ _ by rw [← HX.out]; exact wrong_p _ n0 x p H.out HP.out false HDN.out).mono ?_); rintro e w2 ⟨rfl, rfl⟩)
      refine (show Calls _ _ #[ptrV db, .string s] _ _ by rw [← HX.out]; exact bytes_ok _ _ _ _ HS.out H.out).mono ?_
      rintro e w3 ⟨B, cap, rfl, hq, rfl⟩
      rw [HL.out] at hq
      rw [HL.out, HLL.out]
      rw [HLL.out] at hq
      have hcap : L ≤ cap := own_cap (by have := hq.own; rw [HLL.out] at this; exact this)
      rcases own_form (by have := hq.own; rw [HLL.out] at this; exact this) with ⟨rfl, rfl, rfl⟩ | ⟨g, rfl⟩
      · have hcn := convNil
        have hl0 : l = [] := List.eq_nil_of_length_eq_zero HLL.out
        have HL0 := Lib.hid hl0
        clear hq hl0
        have FIN0 := Lib.hid (fin.out w3 [] rfl (by rw [HL0.out]; simp))
        rcases (show 0 < a ∨ a = 0 by omega) with q | rfl
        · rcases (show 0 < n ∨ n = 0 by omega) with q2 | rfl
          all_goals
            go_wp2_with fail
            go_ret2
            exact FIN0.out
        · rcases (show 0 < n ∨ n = 0 by omega) with q2 | rfl
          all_goals
            go_wp2_with fail
            go_ret2
            exact FIN0.out
      · have HQ := Lib.hid hq
        clear hq
        by_cases haL : a < L
        · obtain ⟨F, hF⟩ : ∃ F : Nat, a = F := ⟨a.toNat, by omega⟩
          have HF := Lib.hid hF
          have hFt : a.toNat = F := by omega
          have hFc : ¬ cap = F := by omega
          have hFL : F < L := by omega
          have hFcap : F ≤ cap := by omega
          have haL2 : a ≤ (L : Int) := by omega
          by_cases hnk : n ≤ (L : Int) - a
          · obtain ⟨K, hK⟩ : ∃ K : Nat, n = K := ⟨n.toNat, by omega⟩
            have HK := Lib.hid hK
            have hw1 : IntKind.i64.wrap (a + n) = a + n := by rw [IntKind.wrap_i64]; omega
            have hh1 : 0 ≤ a + n := by omega
            have hh2 : a ≤ a + n := by omega
            have hh3 : (a + n).toNat = F + K := by omega
            have hh4 : a + n ≤ (cap : Int) := by omega
            have hh5 : F + K ≤ cap := by omega
            have hh6 : F + K - F = K := by omega
            have hby := by_of HQ.out HLL.out F K (by omega)
            have hb1 := hby.1
            have HB2 := Lib.hid hby.2
            clear hby hF hK
            go_wp2_with fail
            go_ret2
            have e2 : n.toNat = K := by have := HK.out; omega
            have := fin.out w3 _ rfl (show byRd w3 g F K = _ by rw [HB2.out, hFt, e2])
            exact this
          · obtain ⟨K, hK⟩ : ∃ K : Nat, (L : Int) - a = K := ⟨(L - a).toNat, by omega⟩
            have HK := Lib.hid hK
            have hw1 : IntKind.i64.wrap ((L : Int) - a) = (L : Int) - a := by rw [IntKind.wrap_i64]; omega
            have hw2 : IntKind.i64.wrap (a + ((L : Int) - a)) = (L : Int) := by rw [IntKind.wrap_i64]; omega
            have hw3 : a + ((L : Int) - a) = (L : Int) := by omega
            have hh6 : L - F = K := by omega
            have hby := by_of HQ.out HLL.out F K (by omega)
            have hb1 := hby.1
            have HB2 := Lib.hid hby.2
            have hcap2 : (L : Int) ≤ (cap : Int) := by omega
            clear hby hF hK
            go_wp2_with fail
            all_goals
              go_ret2
              have := fin.out w3 _ rfl (show byRd w3 g F K = _ by rw [HB2.out, hFt]; rw [List.take_of_length_le (by simp [HLL.out]; have := HF.out; omega), List.take_of_length_le (by simp [HLL.out]; have := HF.out; have := HK.out; omega)])
              exact this
        · have haL2 : (L : Int) ≤ a := by omega
          have hcap2 : (L : Int) ≤ (cap : Int) := by omega
          have hw1 : IntKind.i64.wrap ((L : Int) - (L : Int)) = 0 := by rw [IntKind.wrap_i64]; omega
          have hb1 : byAt w3 g 0 0 := fun j hj => absurd hj (by omega)
          have hb2 : byAt w3 g L 0 := fun j hj => absurd hj (by omega)
          have hsub : L - L = 0 := by omega
          have fin2 := fin.out w3 [] rfl (by rw [List.drop_eq_nil_of_le (by rw [HLL.out]; omega)]; simp)
          have FIN2 := Lib.hid fin2
          clear fin2
          rcases (show (L : Int) < a ∨ a = L by omega) with q | rfl
          · by_cases hcl : cap = L
            · subst hcl
              rcases (show 0 < n ∨ n = 0 by omega) with q2 | rfl
              all_goals
                go_wp2_with fail
                go_ret2
                exact FIN2.out
            · rcases (show 0 < n ∨ n = 0 by omega) with q2 | rfl
              all_goals
                go_wp2_with fail
                go_ret2
                exact FIN2.out
          · by_cases hcl : cap = L
            · subst hcl
              rcases (show 0 < n ∨ n = 0 by omega) with q2 | rfl
              all_goals
                go_wp2_with fail
                go_ret2
                exact FIN2.out
            · rcases (show 0 < n ∨ n = 0 by omega) with q2 | rfl
              all_goals
                go_wp2_with fail
                go_ret2
                exact FIN2.out
  · have HDN := Lib.hid hdn
    have fin : Hid (RdPost w p s a n (.returned (.tuple #[.string ⟨#[]⟩, .int .i64 7])) w) := Lib.hid (by
      have e1 : p.readE a n = 7 := by unfold Pl.readE; rw [HDN.out]; rfl
      refine ⟨?_, Kp.refl _ _⟩
      unfold Pl.read
      rw [e1]
      rfl)
    clear h hp hs hdb hl hLL hdn
    unfold ptrV
    go_enter Try.func28, Try.ntmps28
    go_wp2_with (go_at_call 80; go_must (refine (show Calls _ _ #[ptrV db] _ _ by rw [← HX.out]; exact wrong_p _ n0 x p H.out HP.out true HDN.out).mono ?_); rintro e w2 ⟨rfl, rfl⟩)
    go_ret2
    exact fin.out
end Go.Proofs.Ytegcbdfilkecpaa
/- The stand-in disk: Truncate; no condition but on the texts' lengths and the counts. -/
namespace Go.Proofs.Ytegcbdfilkecpaa
open Go.RowKit

def TrPost (n0 : Nat) (w : World) (x : Dd) (p : Pl) (s : ByteArray) (n : Int) (e : Ending) (w' : World) : Prop := e = .returned (.int .i64 (p.truncE s n)) ∧ To n0 w x (p.trunc s n) w'
theorem To.step {n0 : Nat} {w w1 w2 : World} {x x1 : Dd} {p2 : Pl} (h1 : To n0 w1 x1 p2 w2) (d1 : x1.db = x.db) (k : Kp x.O w w1) (o : ∀ b, x1.O b → x.O b ∨ w.heap.size ≤ b) : To n0 w x p2 w2 := h1.trans d1 k o
set_option maxRecDepth 100000 in
set_option maxHeartbeats 800000 in
theorem trunc_ok (w : World) (n0 : Nat) (x : Dd) (p : Pl) (s : ByteArray) (n : Int) (hnn : -9223372036854775808 ≤ n ∧ n ≤ 9223372036854775807) (h : Dk n0 w x) (hp : Of x p) (hs : s.size ≤ maxLen) (hn0 : n0 ≤ w.heap.size)
    (hm : p.nf < 1099511627776 - 10) (hpd : p.pd.length < 1099511627776 - 20000) :
    Calls Try.prog 86 #[ptrV x.db, .string s, .int .i64 n] w (TrPost n0 w x p s n) := by
  have H := Lib.hid h
  have HP := Lib.hid hp
  have HS := Lib.hid hs
  have HN0 := Lib.hid hn0
  have HM := Lib.hid hm
  have HPD := Lib.hid hpd
  obtain ⟨db, hdb⟩ : ∃ db, x.db = db := ⟨_, rfl⟩
  have HX := Lib.hid hdb
  rw [hdb]
  rcases hdn : p.down with _ | _
  · have HDN := Lib.hid hdn
    clear h hp hs hn0 hm hpd hdb hdn
    unfold ptrV
    by_cases hneg : n < 0
    · have fin : Hid (TrPost n0 w x p s n (.returned (.int .i64 2)) w) := Lib.hid (by
        refine ⟨?_, ?_⟩
        · unfold Pl.truncE; rw [HDN.out, if_neg (by simp), if_pos hneg]
        · unfold Pl.trunc; rw [if_pos (.inr (.inl hneg))]; exact To.refl H.out HP.out)
      go_enter Try.func86, Try.ntmps86
      go_wp2_with (go_at_call 80; go_must (refine (show Calls _ _ #[ptrV db] _ _ by rw [← HX.out]; exact wrong_p _ n0 x p H.out HP.out false HDN.out).mono ?_); rintro e w2 ⟨rfl, rfl⟩)
      go_ret
      exact fin.out
    · have h0 : 0 ≤ n := by omega
      obtain ⟨f, hf⟩ : ∃ f, p.fits s n = f := ⟨_, rfl⟩
      have HF := Lib.hid hf
      by_cases hfz : f = 0
      · subst hfz
        have hle : n ≤ 1048576 := by
          have := HF.out
          unfold Pl.fits at this
          split at this
          · omega
          · omega
        obtain ⟨m, hm⟩ : ∃ m : Nat, n = m := ⟨n.toNat, by omega⟩
        have HMM := Lib.hid hm
        have h1 : Hid (m ≤ 1048576) := Lib.hid (by omega)
        clear hf hm
        go_enter Try.func86, Try.ntmps86
        go_wp2_with (first
          | (go_at_call 80; go_must (refine (show Calls _ _ #[ptrV db] _ _ by rw [← HX.out]; exact wrong_p _ n0 x p H.out HP.out false HDN.out).mono ?_); rintro e w2 ⟨rfl, rfl⟩)
          | (go_at_call 131; go_must (refine (show Calls _ _ #[ptrV db, .string s, .int .i64 _] _ _ by rw [← HX.out]; exact fits_ok _ n0 x p s n HS.out (by omega) H.out HP.out).mono ?_); rintro e w4 ⟨rfl, hk4⟩; rw [HF.out]; have HK4 := Lib.hid hk4; have HD4 := Lib.hid (H.out.keep hk4 (fun _ _ q => q) (fun _ _ _ q => q)); clear hk4)
          | (go_at_call 132; go_must (refine (show Calls _ _ #[ptrV db, .string s, .int .i64 n] _ _ by rw [← HX.out, HMM.out]; exact length_ok _ n0 x p s m HS.out (by have := HM.out; omega) (by have := HPD.out; omega) h1.out (Nat.le_trans HN0.out HK4.out.size) HD4.out HP.out).mono ?_); rintro e w5 ⟨rfl, x5, hd5, hp5, hx5, hk5, ho5⟩; have HD5 := Lib.hid hd5; have HP5 := Lib.hid hp5; have HX5 := Lib.hid hx5; have HK5 := Lib.hid hk5; have HO5 := Lib.hid ho5; clear hd5 hp5 hx5 hk5 ho5)
          | (go_at_call 130; go_must (refine (show Calls _ _ #[ptrV db] _ _ by rw [← HX.out, ← HX5.out]; exact step_p _ n0 x5 _ HD5.out HP5.out).mono ?_); rintro e w6 ⟨rfl, ht6⟩; have HT6 := Lib.hid ht6; clear ht6))
        go_ret
        have ecr : (p.length s m).crash = p.crash := by unfold Pl.length; split <;> rfl
        have hT := (HT6.out.trans HX5.out HK5.out HO5.out).quiet HK4.out H.out
        refine ⟨?_, ?_⟩
        · unfold Pl.truncE
          rw [HDN.out, if_neg (by simp), if_neg (by omega), HF.out, if_neg (by simp)]
          simp only [Pl.stepE, ecr]
          rfl
        · unfold Pl.trunc
          rw [HDN.out, HF.out, if_neg (by simp; omega), show n.toNat = m by have := HMM.out; omega]
          exact hT
      · have HFZ := Lib.hid hfz
        have hfb : (f != 0) = true := by simpa using hfz
        have hfb2 : (f == 0) = false := by simpa using hfz
        clear hf hfz
        go_enter Try.func86, Try.ntmps86
        go_wp2_with (first
          | (go_at_call 80; go_must (refine (show Calls _ _ #[ptrV db] _ _ by rw [← HX.out]; exact wrong_p _ n0 x p H.out HP.out false HDN.out).mono ?_); rintro e w2 ⟨rfl, rfl⟩)
          | (go_at_call 131; go_must (refine (show Calls _ _ #[ptrV db, .string s, .int .i64 _] _ _ by rw [← HX.out]; exact fits_ok _ n0 x p s n HS.out (by omega) H.out HP.out).mono ?_); rintro e w4 ⟨rfl, hk4⟩; rw [HF.out]; have HK4 := Lib.hid hk4; have HD4 := Lib.hid (H.out.keep hk4 (fun _ _ q => q) (fun _ _ _ q => q)); clear hk4))
        go_ret
        refine ⟨?_, ?_⟩
        · unfold Pl.truncE
          rw [HDN.out, if_neg (by simp), if_neg (by omega), HF.out, if_pos HFZ.out]
          rfl
        · unfold Pl.trunc
          rw [HF.out, if_pos (.inr (.inr HFZ.out))]
          exact (To.refl HD4.out HP.out).quiet HK4.out H.out
  · have HDN := Lib.hid hdn
    have fin : Hid (TrPost n0 w x p s n (.returned (.int .i64 7)) w) := Lib.hid (by
      refine ⟨?_, ?_⟩
      · unfold Pl.truncE; rw [HDN.out]; rfl
      · unfold Pl.trunc; rw [HDN.out, if_pos (.inl rfl)]; exact To.refl H.out HP.out)
    clear h hp hs hn0 hm hpd hdb hdn
    unfold ptrV
    go_enter Try.func86, Try.ntmps86
    go_wp2_with (go_at_call 80; go_must (refine (show Calls _ _ #[ptrV db] _ _ by rw [← HX.out]; exact wrong_p _ n0 x p H.out HP.out true HDN.out).mono ?_); rintro e w2 ⟨rfl, rfl⟩)
    go_ret
    exact fin.out
end Go.Proofs.Ytegcbdfilkecpaa
/- The stand-in disk: changes cloned, and those of one file struck; no condition but on the counts. -/
namespace Go.Proofs.Ytegcbdfilkecpaa
open Go.RowKit

theorem cgCells_split (pd : List Cg) (i : Nat) (hi : i < pd.length) : cgCells pd = cgCells (pd.take i) ++ cgL pd[i].nm pd[i].sec pd[i].n (pad64 pd[i].s) ++ cgCells (pd.drop (i + 1)) := by
  have e : pd = pd.take i ++ pd[i] :: pd.drop (i + 1) := by simp
  conv => lhs; rw [e]
  unfold cgCells cgL
  rw [List.flatMap_append, List.flatMap_cons]
  simp only [List.append_assoc, List.cons_append]
theorem cgL_len (c : Cg) (h : CgOk c) : (cgL c.nm c.sec c.n (pad64 c.s)).length = 67 := by unfold cgL; simp [h.pad]
theorem cg_at {w : World} {g : Nat} {pd : List Cg} {ds : List Value} (h : Blk w g 148 (cgCells pd ++ ds).toArray) (hok : ∀ c ∈ pd, CgOk c) (i : Nat) (hi : i < pd.length) :
    w.there g (i * 67) 67 ∧ readRow w g (i * 67) 67 = cgA pd[i].nm pd[i].sec pd[i].n (pad64 pd[i].s) := by
  have hl : (cgCells (pd.take i)).length = i * 67 := by
    rw [cgCells_len _ (fun c hc => hok c (List.mem_of_mem_take hc)), List.length_take, Nat.min_eq_left (by omega)]
  have hc := cgL_len pd[i] (hok _ (List.getElem_mem hi))
  rw [cgCells_split pd i hi, List.append_assoc] at h
  refine ⟨h.there (by simp [hl, hc]), ?_⟩
  rw [h.read (i * 67) 67 hl hc]
  rfl
theorem cgA_toList (s : ByteArray) (sec n : Int) (l : List Int) : (cgA s sec n l).toList = cgL s sec n l := rfl
theorem cg_put {w : World} {g : Nat} {pd : List Cg} {ds : List Value} (h : Blk w g 148 (cgCells pd ++ ds).toArray) (hok : ∀ c ∈ pd, CgOk c) (i : Nat) (hi : i < pd.length) (c : Cg) (hc : CgOk c) :
    Blk (w.setCells g (i * 67) (cgA c.nm c.sec c.n (pad64 c.s)).toList) g 148 (cgCells (pd.set i c) ++ ds).toArray := by
  have hl : (cgCells (pd.take i)).length = i * 67 := by
    rw [cgCells_len _ (fun c hc => hok c (List.mem_of_mem_take hc)), List.length_take, Nat.min_eq_left (by omega)]
  have hc1 := cgL_len pd[i] (hok _ (List.getElem_mem hi))
  rw [cgCells_split pd i hi, List.append_assoc] at h
  have h2 := h.cellsL (xs := (cgA c.nm c.sec c.n (pad64 c.s)).toList) (i * 67) hl (by rw [cgA_toList, cgL_len c hc, hc1])
  have e : cgCells (pd.set i c) = cgCells (pd.take i) ++ cgL c.nm c.sec c.n (pad64 c.s) ++ cgCells (pd.drop (i + 1)) := by
    rw [cgCells_split (pd.set i c) i (by simpa using hi)]
    simp [List.take_set_of_le, List.drop_set]
  rw [e, List.append_assoc]
  exact h2
def CClPost (w : World) (pd : List Cg) (e : Ending) (w' : World) : Prop := ∃ A cap, e = .returned (.slice A pd.length cap) ∧ w'.ownsRow w.heap.size 148 67 (.slice A pd.length cap) pd.length (cgCells pd) ∧ Kp NoB w w'
theorem cgEqN (w : World) : (binOp .eql 119 (.slice none 0 0) (.slice none 0 0)).run Try.prog w = .ok (.bool true) w := by kernel_rfl
theorem cgEqS (a : Addr) (m c : Nat) (w : World) : (binOp .eql 119 (.slice (some a) m c) (.slice none 0 0)).run Try.prog w = .ok (.bool false) w := by kernel_rfl
theorem cg_one (pd : List Cg) : ∀ u ∈ cgCells pd, u.oneCell' = true := by
  intro u hu
  unfold cgCells at hu
  obtain ⟨c, _, hc⟩ := List.mem_flatMap.1 hu
  exact cgA_one c.nm c.sec c.n (pad64 c.s) u hc
set_option maxRecDepth 100000 in
set_option maxHeartbeats 800000 in
theorem cloneCg_ok (w : World) (n0 : Nat) (A : Option Addr) (m cap : Nat) (pd : List Cg) (hm : pd.length = m) (hl : m < 1099511627776) (hok : ∀ c ∈ pd, CgOk c) (h : w.ownsRow n0 148 67 (.slice A m cap) m (cgCells pd)) :
    Calls Try.prog 84 #[.slice A m cap] w (CClPost w pd) := by
  obtain ⟨j0, hj0, hy0, hy1, hy2⟩ := info_parts infoCg
  have HJ0 := Lib.hid hj0
  have HY0 := Lib.hid hy0
  have HY1 := Lib.hid hy1
  have HY2 := Lib.hid hy2
  have H := Lib.hid h
  have HL := Lib.hid hl
  have HM := Lib.hid hm
  have HOK := Lib.hid hok
  have qn := cgEqN
  have qs := cgEqS
  rcases own_form h with ⟨rfl, rfl, rfl⟩ | ⟨g, rfl⟩
  · obtain rfl : pd = [] := List.eq_nil_of_length_eq_zero hm
    clear h hl hj0 hy0 hy1 hy2 hm hok
    go_enter Try.func84, Try.ntmps84
    go_wp2_with fail
    go_ret
    exact ⟨none, 0, rfl, World.ownsRow_nil _ _ _ _, Kp.refl _ _⟩
  · have HOWN : Hid ((w.alloc (.cells #[] 148)).ownsRow w.heap.size 148 67 (.slice (some ⟨w.heap.size, 0, none⟩) 0 0) 0 []) := Lib.hid ⟨rfl, .inr ⟨w.heap.size, 0, #[], rfl, Nat.le_refl _, heap_alloc_new _ _, Nat.le_refl _, by simp, rfl, rfl⟩⟩
    have HLEN : Hid ((cgCells pd).length = m * 67) := Lib.hid (by rw [cgCells_len pd hok, hm])
    have HSRC : Hid (∀ j u, (cgCells pd)[j]? = some u → (w.alloc (.cells #[] 148)).cell? ⟨g, 0 + j, none⟩ = some u) := Lib.hid (by
      intro j u hj
      have hc := h.cells (g := g) rfl j u hj
      rw [add_mk] at hc
      have hlt : g < w.heap.size := (h.lt g rfl).2
      rw [← hc]
      exact ((Kp.refl NoB w).alloc _).cell hlt (fun q => q))
    clear h hl hj0 hy0 hy1 hy2 hm hok
    go_enter Try.func84, Try.ntmps84
    go_wp2_with (at_builtin; refine wpList_append_srcN rfl _ _ 119 rfl w.heap.size 148 j0 _ 67 96 Try.underlying119 HJ0.out HY0.out HY1.out HY2.out rfl (by omega) _ 0 [] rfl HOWN.out (some ⟨g, 0, none⟩) m cap (cgCells pd) rfl (by simp) HLEN.out (fun _ => ⟨g, 0, rfl, HSRC.out⟩) (cg_one pd) (by have := HL.out; unfold maxLen; omega) (by have := HL.out; omega) (by simp) ?_; intro v1 w1 hown1 hgrow1; rw [Nat.zero_add, List.nil_append] at hown1; obtain ⟨B, c, rfl⟩ := own_slice hown1; have HO1 := Lib.hid hown1; have HK1 := Lib.hid (((Kp.refl NoB w).alloc _).own (v := .slice (some ⟨w.heap.size, 0, none⟩) 0 0) hgrow1 rfl HOWN.out); clear hown1 hgrow1)
    go_ret
    exact ⟨B, c, by rw [HM.out]; rfl, by rw [HM.out]; exact HO1.out, HK1.out⟩
/-- the name is another one -/
def notB (s : ByteArray) (c : Cg) : Bool := !decide (c.nm = s)
theorem str_eqB (a b : ByteArray) : (a.toList == b.toList) = decide (a = b) := by
  by_cases h : a = b
  · subst h; simp
  · rw [decide_eq_false h]
    have h2 : a.toList ≠ b.toList := by
      rw [ByteArray.toList_eq, ByteArray.toList_eq]
      intro q
      apply h
      cases a; cases b
      simp at q
      rw [q]
    simpa using h2
attribute [local go_sem ↓] exBuildCg2 exSliceCg loadCg storeCg allocCg
set_option maxRecDepth 100000 in
set_option maxHeartbeats 800000 in
theorem sync1_ok (w : World) (B : Nat) (s nm : ByteArray) (sec n : Int) (l : List Int) (hl : l.length = 64) (hB : w.cell? ⟨B, 0, none⟩ = some (.string s)) :
    Calls Try.prog 142 #[.agg (cgA nm sec n l), .pointer (some ⟨B, 0, none⟩)] w fun e w' => e = .returned (.bool (decide (nm = s))) ∧ Kp NoB w w' := by
  have hb := Blk.new w 148 (cgA nm sec n l)
  have c0 : (w.alloc (.cells (cgA nm sec n l) 148)).cell? ⟨w.heap.size, 0, none⟩ = some (.string nm) := by rw [hb.cell]; rfl
  have c1 : (w.alloc (.cells (cgA nm sec n l) 148)).cell? ⟨B, 0, none⟩ = some (.string s) := by
    rw [((Kp.refl NoB w).alloc _).cell (block_lt_of_cell hB) (fun q => q)]; exact hB
  have sb := str_eqB nm s
  clear hb hB hl
  go_enter Try.func142, Try.ntmps142
  go_wp2_with fail
  go_ret
  exact ⟨rfl, (Kp.refl NoB w).alloc _⟩
end Go.Proofs.Ytegcbdfilkecpaa
/- The stand-in disk: the changes of one file struck; no condition but on the counts. -/
namespace Go.Proofs.Ytegcbdfilkecpaa
open Go.RowKit

attribute [local go_sem ↓] loadCg storeCg allocCg
def IdxR (pd : List Cg) (s : ByteArray) (r : Int) : Prop := (r = -1 ∧ ∀ c ∈ pd, c.nm ≠ s) ∨ ∃ i : Nat, r = i ∧ ∃ h : i < pd.length, (∀ c ∈ pd.take i, c.nm ≠ s) ∧ pd[i].nm = s
def IdxPost (w : World) (pd : List Cg) (s : ByteArray) (e : Ending) (w' : World) : Prop := ∃ r : Int, e = .returned (.int .i64 r) ∧ IdxR pd s r ∧ Kp NoB w w'
def IdxRel (w : World) (pd : List Cg) (s : ByteArray) (v : Value) (wr : World) : Prop := ∃ i : Nat, v = .int .i64 (i : Int) ∧ i ≤ pd.length ∧ (∀ c ∈ pd.take i, c.nm ≠ s) ∧ Kp NoB w wr
theorem cg_eta (pd : List Cg) (i : Nat) (hi : i < pd.length) : ∃ c, pd[i] = c ∧ c ∈ pd := ⟨_, rfl, List.getElem_mem hi⟩
set_option maxRecDepth 100000 in
set_option maxHeartbeats 800000 in
theorem idx_ok (w : World) (n0 B : Nat) (s : ByteArray) (A : Option Addr) (m cap : Nat) (pd : List Cg) (hm : pd.length = m) (hl : m < 1099511627776) (hok : ∀ c ∈ pd, CgOk c) (h : w.ownsRow n0 148 67 (.slice A m cap) m (cgCells pd)) (hB : w.cell? ⟨B, 0, none⟩ = some (.string s)) :
    Calls Try.prog 162 #[.slice A m cap, .func (.func 142) #[] #[.pointer (some ⟨B, 0, none⟩)]] w (IdxPost w pd s) := by
  have H := Lib.hid h
  have HM := Lib.hid hm
  have HL := Lib.hid hl
  have HOK := Lib.hid hok
  have HB := Lib.hid hB
  have hbl := block_lt_of_cell hB
  have HBL := Lib.hid hbl
  clear h hm hok hB hbl
  go_enter Try.func162, Try.ntmps162
  go_wp2_with fail
  go_loopw [8] (fun v wr => IdxRel w pd s v wr) (fun v _ => m - (intOf v).toNat)
  case atStart => exact ⟨0, rfl, Nat.zero_le _, by simp, Kp.refl _ _⟩
  case round =>
    obtain ⟨i, rfl, hi, hno, hk⟩ := hrel
    have HK := Lib.hid hk
    have HNO := Lib.hid hno
    have HI := Lib.hid hi
    clear hk hno hi
    by_cases hlt : i < m
    · obtain ⟨g, ds, rfl, hg, hb⟩ := own_blkN H.out (by omega)
      have hbr := hb.keep HK.out (fun q => q)
      obtain ⟨t0, r0⟩ := cg_at hbr HOK.out i (by have := HM.out; omega)
      obtain ⟨c, hc, hcm⟩ := cg_eta pd i (by have := HM.out; omega)
      rw [hc] at r0
      have HC := Lib.hid hc
      have cB : wr.cell? ⟨B, 0, none⟩ = some (.string s) := by rw [HK.out.cell HBL.out (fun q => q)]; exact HB.out
      have HCB := Lib.hid cB
      have hp64 := (HOK.out c hcm).pad
      have HP64 := Lib.hid hp64
      have hii : (i : Int) < (m : Int) := by omega
      clear hb hbr hc hcm cB hp64
      by_cases he : c.nm = s
      · have hd : decide (c.nm = s) = true := decide_eq_true he
        have HE := Lib.hid he
        clear he
        go_wp2_with (go_at_call 142; refine (sync1_ok wr B s c.nm c.sec c.n (pad64 c.s) HP64.out HCB.out).mono ?_; rintro e w3 ⟨rfl, hk3⟩; rw [hd]; have HK3 := Lib.hid hk3; clear hk3)
        go_ret
        exact ⟨i, rfl, .inr ⟨i, rfl, by have := HM.out; omega, HNO.out, by rw [HC.out]; exact HE.out⟩, HK.out.trans HK3.out (fun _ _ q => q)⟩
      · have hd : decide (c.nm = s) = false := decide_eq_false he
        have HE := Lib.hid he
        clear he
        go_wp2_with (go_at_call 142; refine (sync1_ok wr B s c.nm c.sec c.n (pad64 c.s) HP64.out HCB.out).mono ?_; rintro e w3 ⟨rfl, hk3⟩; rw [hd]; have HK3 := Lib.hid hk3; clear hk3)
        go_roundw
        case rel =>
          refine ⟨i + 1, by go_num, by have := HM.out; omega, ?_, HK.out.trans HK3.out (fun _ _ q => q)⟩
          intro c' hc'
          rw [List.take_succ_eq_append_getElem (by have := HM.out; omega)] at hc'
          rcases List.mem_append.1 hc' with q | q
          · exact HNO.out c' q
          · rw [List.mem_singleton.1 q, HC.out]; exact HE.out
        case measure => simp [intOf]; omega
    · have hii : ¬ (i : Int) < (m : Int) := by omega
      go_wp2_with fail
      go_ret
      exact ⟨-1, rfl, .inl ⟨rfl, fun c hc => HNO.out c (by rw [List.take_of_length_le (by have := HM.out; omega)]; exact hc)⟩, HK.out⟩
theorem run_clear_sliceN {P : Program} (w : World) (t e ty : TypeId) (z : Value) (ht : P.underlying t = some (.slice e)) (hv : ∀ w, (zeroValue e).run P w = .ok z w) (b o n c : Nat) (hn : 0 < n)
    (hc : w.there b o (Builtin.zeroCells z.cells n).toList.length) (h1 : ∀ v ∈ (Builtin.zeroCells z.cells n).toList, v.oneCell' = true) :
    (Builtin.clear_ #[t] ty #[.slice (some ⟨b, o, none⟩) n c]).run P w = .ok (.tuple #[]) (w.setCells b o (Builtin.zeroCells z.cells n).toList) := by
  have hst := run_storeCells_cells (P := P) b o (Builtin.zeroCells z.cells n).toList 0 w (fun j hj => (hc j (by simpa using hj)).1) (fun j hj => (hc j (by simpa using hj)).2) h1
  simp only [Nat.add_zero] at hst
  obtain ⟨m, rfl⟩ : ∃ m, n = m + 1 := ⟨n - 1, by omega⟩
  simp [Builtin.clear_, run_underlying ht, hv, hst]
def DelPost (n0 : Nat) (w : World) (A : Option Addr) (m cap : Nat) (pd : List Cg) (s : ByteArray) (e : Ending) (w' : World) : Prop :=
  ∃ C k cap', e = .returned (.slice C k cap') ∧ w'.ownsRow n0 148 67 (.slice C k cap') k (cgCells (pd.filter (notB s))) ∧ (pd.filter (notB s)).length = k ∧ Kp (fun b => (Value.slice A m cap).ownBlock = some b) w w' ∧ ∀ b, (Value.slice C k cap').ownBlock = some b → (Value.slice A m cap).ownBlock = some b
def DelRel (w : World) (g : Nat) (pd : List Cg) (ds : List Value) (s : ByteArray) (v5 v6 : Value) (wr : World) : Prop :=
  ∃ (i j : Nat) (q : List Cg), v5 = .int .i64 (i : Int) ∧ v6 = .int .i64 (j : Int) ∧ i < j ∧ j ≤ pd.length ∧ q.length = pd.length ∧ q.take i = (pd.take j).filter (notB s) ∧ q.drop j = pd.drop j ∧ (∀ c ∈ q, CgOk c) ∧ Blk wr g 148 (cgCells q ++ ds).toArray ∧ Kp (OnB g) w wr
theorem notB_all {pd : List Cg} {s : ByteArray} (h : ∀ c ∈ pd, c.nm ≠ s) : pd.filter (notB s) = pd := by
  rw [List.filter_eq_self]
  intro c hc
  unfold notB
  simp [h c hc]
theorem own_full {w : World} {base n cap size : Nat} {e : TypeId} {A : Option Addr} {xs : List Value} (h : w.ownsRow base e size (.slice A n cap) n xs) (hn : 0 < n) : ∃ g ds, A = some ⟨g, 0, none⟩ ∧ base ≤ g ∧ Blk w g e (xs ++ ds).toArray ∧ (xs ++ ds).length = cap * size ∧ cap ≤ maxLen := by
  rcases h.2 with ⟨h0, _⟩ | ⟨g, cap', cur, hv, hb, hh, h1, h2, h3, h4⟩
  · cases h0; omega
  · simp only [Value.slice.injEq] at hv
    obtain ⟨hA, _, rfl⟩ := hv
    have e1 : xs ++ cur.toList.drop (n * size) = cur.toList := by rw [← h4, List.take_append_drop]
    refine ⟨g, cur.toList.drop (n * size), hA, hb, ?_, by rw [e1]; simpa using h3, h2⟩
    rw [e1]
    exact hh
theorem own_of {w : World} {base g n cap size : Nat} {e : TypeId} {xs ds : List Value} (hb : base ≤ g) (h : Blk w g e (xs ++ ds).toArray) (hx : xs.length = n * size) (hl : (xs ++ ds).length = cap * size) (hn : n ≤ cap) (hc : cap ≤ maxLen) : w.ownsRow base e size (.slice (some ⟨g, 0, none⟩) n cap) n xs :=
  ⟨hx, .inr ⟨g, cap, _, rfl, hb, h, hn, hc, by simpa using hl, by rw [← hx]; simp⟩⟩
theorem del_step {q pd : List Cg} {j : Nat} {c : Cg} (hqd : q.drop j = pd.drop j) (hc : q[j]? = some c) : pd.take (j + 1) = pd.take j ++ [c] ∧ q.drop (j + 1) = pd.drop (j + 1) := by
  have h1 : pd[j]? = some c := by
    have := congrArg (fun l => l[0]?) hqd
    simp only [List.getElem?_drop, Nat.add_zero] at this
    rw [← this, hc]
  refine ⟨?_, ?_⟩
  · rw [List.take_add_one, h1]; rfl
  · have := congrArg (List.drop 1) hqd
    simpa [List.drop_drop] using this
theorem zeroCg_one (n : Nat) : ∀ v ∈ (Builtin.zeroCells (Value.agg (cgA ⟨#[]⟩ 0 0 (zeros 64))).cells n).toList, v.oneCell' = true := by
  intro v hv
  have e : (Value.agg (cgA ⟨#[]⟩ 0 0 (zeros 64))).cells = cgA ⟨#[]⟩ 0 0 (zeros 64) := rfl
  rw [e] at hv
  unfold Builtin.zeroCells at hv
  simp only [Array.toList_map, List.mem_map, Array.toList_range] at hv
  obtain ⟨k, _, rfl⟩ := hv
  have hsz : (cgA ⟨#[]⟩ 0 0 (zeros 64)).size = 67 := by rw [cgA_size]; rfl
  have hlt : k % (cgA ⟨#[]⟩ 0 0 (zeros 64)).size < (cgA ⟨#[]⟩ 0 0 (zeros 64)).size := Nat.mod_lt _ (by rw [hsz]; omega)
  rw [getElem!_pos (cgA ⟨#[]⟩ 0 0 (zeros 64)) (k % (cgA ⟨#[]⟩ 0 0 (zeros 64)).size) hlt]
  exact cgA_one ⟨#[]⟩ 0 0 (zeros 64) _ (by rw [← cgA_toList]; exact Array.getElem_mem_toList hlt)
theorem zeroCg_len (n : Nat) : (Builtin.zeroCells (Value.agg (cgA ⟨#[]⟩ 0 0 (zeros 64))).cells n).toList.length = n * 67 := by
  have e : (Value.agg (cgA ⟨#[]⟩ 0 0 (zeros 64))).cells = cgA ⟨#[]⟩ 0 0 (zeros 64) := rfl
  have hsz : (cgA ⟨#[]⟩ 0 0 (zeros 64)).size = 67 := by rw [cgA_size]; rfl
  rw [e]
  unfold Builtin.zeroCells
  simp [hsz]
set_option maxRecDepth 100000 in
set_option maxHeartbeats 800000 in
theorem del_ok (w : World) (n0 B : Nat) (s : ByteArray) (A : Option Addr) (m cap : Nat) (pd : List Cg) (hm : pd.length = m) (hl : m < 1099511627776) (hok : ∀ c ∈ pd, CgOk c) (h : w.ownsRow n0 148 67 (.slice A m cap) m (cgCells pd)) (hB : Blk w B 9 #[.string s]) :
    Calls Try.prog 141 #[.slice A m cap, .func (.func 142) #[] #[.pointer (some ⟨B, 0, none⟩)]] w (DelPost n0 w A m cap pd s) := by
  have H := Lib.hid h
  have HM := Lib.hid hm
  have HL := Lib.hid hl
  have HOK := Lib.hid hok
  have HB := Lib.hid hB
  clear h hm hok hB
  go_enter Try.func141, Try.ntmps141
  go_wp2_with fail
  refine (idx_ok w n0 B s A m cap pd HM.out HL.out HOK.out H.out (by rw [HB.out.cell]; rfl)).mono ?_
  rintro e w2 ⟨r, rfl, hr, hk2⟩
  have HK2 := Lib.hid hk2
  clear hk2
  rcases hr with ⟨rfl, hno⟩ | ⟨i0, rfl, hi0, hno, hE⟩
  · have HNO := Lib.hid hno
    clear hno
    go_wp2_with fail
    go_ret
    refine ⟨A, m, cap, rfl, ?_, ?_, HK2.out.mono (fun _ _ q => q.elim), fun b q => q⟩
    · rw [notB_all HNO.out]
      exact own_keepB H.out HK2.out (fun _ _ q => q)
    · rw [notB_all HNO.out]; exact HM.out
  · obtain ⟨g, ds, rfl, hg, hb, hfl, hcm⟩ := own_full H.out (by have := HM.out; omega)
    have HFL := Lib.hid hfl
    have HCX := Lib.hid hcm
    clear hfl hcm
    have HNO := Lib.hid hno
    have HE := Lib.hid hE
    have HB2 := Lib.hid (hb.keep HK2.out (fun q => q))
    have HBL := Lib.hid hb.lt
    have him : i0 < m := by have := HM.out; omega
    have hib : ((i0 : Int) == -1) = false := by simp
    have hw1 : IntKind.i64.wrap ((i0 : Int) + 1) = ((i0 + 1 : Nat) : Int) := by rw [IntKind.wrap_i64]; omega
    clear hno hE hb
    go_wp2_with fail
    go_loopw [5, 6] (fun v5 v6 wr => DelRel w g pd ds s v5 v6 wr) (fun _ v6 _ => m - (intOf v6).toNat)
    case atStart =>
      refine ⟨i0, i0 + 1, pd, rfl, rfl, by omega, by omega, rfl, ?_, rfl, HOK.out, HB2.out, HK2.out.mono (fun _ _ q => q.elim)⟩
      rw [List.take_succ_eq_append_getElem hi0, List.filter_append, notB_all HNO.out]
      simp [notB, HE.out]
    case round =>
      obtain ⟨i, j, q, rfl, rfl, hij, hj, hql, hqt, hqd, hqo, hbq, hkq⟩ := hrel
      have HQT := Lib.hid hqt
      have HQD := Lib.hid hqd
      have HQO := Lib.hid hqo
      have HBQ := Lib.hid hbq
      have HKQ := Lib.hid hkq
      have HQL := Lib.hid hql
      have HJ := Lib.hid hj
      clear hqt hqd hqo hbq hkq hj
      by_cases hlt : j < m
      · obtain ⟨t0, r0⟩ := cg_at HBQ.out HQO.out j (by have := HM.out; omega)
        obtain ⟨c, hc, hcm⟩ := cg_eta q j (by have := HM.out; omega)
        rw [hc] at r0
        have HC : Hid (q[j]? = some c) := Lib.hid (by rw [List.getElem?_eq_getElem (by have := HM.out; omega), hc])
        have HCM := Lib.hid hcm
        have hp64 := (HQO.out c hcm).pad
        have HP64 := Lib.hid hp64
        have hjj : (j : Int) < (m : Int) := by omega
        have hzb : Blk (wr.alloc (.cells (cgA ⟨#[]⟩ 0 0 (zeros 64)) 148)) wr.heap.size 148 (cgA ⟨#[]⟩ 0 0 (zeros 64)) := Blk.new _ _ _
        have t1 := hzb.thereAll 67 (by rw [cgA_size]; rfl)
        have on1 : ones (cgA c.nm c.sec c.n (pad64 c.s)) := cgA_ones _ _ _ _
        have sz1 : (cgA c.nm c.sec c.n (pad64 c.s)).size = 67 := by rw [cgA_size, hp64]
        clear hc hcm hp64 hql hzb
        go_upto_region 8 with fail
        obtain ⟨g8, hg8⟩ : ∃ g8, wr.heap.size = g8 := ⟨_, rfl⟩
        have HG8 := Lib.hid hg8
        have hb8 : Blk ((wr.alloc (.cells (cgA ⟨#[]⟩ 0 0 (zeros 64)) 148)).setCells wr.heap.size 0 (cgA c.nm c.sec c.n (pad64 c.s)).toList) wr.heap.size 148 (cgA c.nm c.sec c.n (pad64 c.s)) := (Blk.new wr 148 _).whole _ (by rw [cgA_size, cgA_size, HP64.out]; rfl)
        have hk8 : Kp NoB wr ((wr.alloc (.cells (cgA ⟨#[]⟩ 0 0 (zeros 64)) 148)).setCells wr.heap.size 0 (cgA c.nm c.sec c.n (pad64 c.s)).toList) := Kp.setCells (.inl (Nat.le_refl _)) _ _ _ ((Kp.refl NoB wr).alloc _)
        rw [hg8] at hb8 hk8 ⊢
        generalize (wr.alloc (.cells (cgA ⟨#[]⟩ 0 0 (zeros 64)) 148)).setCells g8 0 (cgA c.nm c.sec c.n (pad64 c.s)).toList = w8 at hb8 hk8 ⊢
        have HB8 := Lib.hid hb8
        have HK8 := Lib.hid hk8
        have t8 := hb8.thereAll 67 (by rw [cgA_size, HP64.out])
        have r8 := hb8.readAll 67 (by rw [cgA_size, HP64.out])
        have hBn : ¬ OnB g B := fun e => by
          have h1 := (HBQ.out)
          have h2 := HB.out.keep HK2.out (fun q => q)
          have h3 := HB2.out
          rw [← show B = g from e] at h3
          exact blk_ne h3 h2 (by decide) rfl
        have HB9 := Lib.hid ((HB.out.keep HKQ.out hBn).keep hk8 (fun q => q))
        have hm8 : i < m := by omega
        clear hg8 hb8 hk8 t0 r0 t1 on1 sz1 hBn
        by_cases he : c.nm = s
        · have hd : decide (c.nm = s) = true := decide_eq_true he
          have HE2 := Lib.hid he
          clear he
          go_wp2_with (go_at_call 142; refine (sync1_ok w8 B s c.nm c.sec c.n (pad64 c.s) HP64.out (by rw [HB9.out.cell]; rfl)).mono ?_; rintro e w3 ⟨rfl, hk3⟩; rw [hd]; have HK3 := Lib.hid hk3; clear hk3)
          go_roundw
          case rel =>
            have k3 : Kp NoB wr w3 := HK8.out.trans HK3.out (fun _ _ q => q)
            refine ⟨i, j + 1, q, rfl, by go_num, by omega, by have := HM.out; omega, HQL.out, ?_, ?_, HQO.out, HBQ.out.keep k3 (fun q => q), HKQ.out.trans k3 (fun _ _ q => q.elim)⟩
            · rw [(del_step HQD.out HC.out).1, List.filter_append, HQT.out]
              simp [notB, HE2.out]
            · exact (del_step HQD.out HC.out).2
          case measure => simp [intOf]; omega
        · have hd : decide (c.nm = s) = false := decide_eq_false he
          have HE2 := Lib.hid he
          clear he
          go_wp2_with (go_at_call 142; refine (sync1_ok w8 B s c.nm c.sec c.n (pad64 c.s) HP64.out (by rw [HB9.out.cell]; rfl)).mono ?_; rintro e w3 ⟨rfl, hk3⟩; rw [hd]; have HK3 := Lib.hid hk3; have hb4 := HB8.out.keep hk3 (fun q => q); have t4 := hb4.thereAll 67 (by rw [cgA_size, HP64.out]); have r4 := hb4.readAll 67 (by rw [cgA_size, HP64.out]); have hbg := (HBQ.out.keep HK8.out (fun q => q)).keep hk3 (fun q => q); have t5 := (cg_at hbg HQO.out i (by have := HM.out; have := HQL.out; omega)).1; have HBG := Lib.hid hbg; have on4 : ones (cgA c.nm c.sec c.n (pad64 c.s)) := cgA_ones _ _ _ _; have sz4 : (cgA c.nm c.sec c.n (pad64 c.s)).size = 67 := (by rw [cgA_size, HP64.out]); clear hk3 hb4 hbg t8 r8)
          have hql := HQL.out
          have hiq : i < q.length := by have := HM.out; omega
          have k3 : Kp NoB wr w3 := HK8.out.trans HK3.out (fun _ _ q => q)
          refine ⟨⟨i + 1, j + 1, q.set i c, rfl, rfl, by omega, by have := HM.out; omega, by rw [List.length_set]; exact hql, ?_, ?_, ?_, cg_put HBG.out HQO.out i hiq c (HQO.out c HCM.out), ?_⟩, by simp [intOf]; omega⟩
          · rw [(del_step HQD.out HC.out).1, List.filter_append, ← HQT.out, List.take_succ_eq_append_getElem (by simpa using hiq)]
            simp [notB, HE2.out, List.take_set_of_le]
          · rw [List.drop_set, if_pos (by omega), (del_step HQD.out HC.out).2]
          · intro c' hc'
            rcases List.mem_or_eq_of_mem_set hc' with q' | q'
            · exact HQO.out c' q'
            · rw [q']; exact HQO.out c HCM.out
          · exact Kp.setCells (.inr (show OnB g g from rfl)) _ _ _ (HKQ.out.trans k3 (fun _ _ q => q.elim))
      · have hjj : ¬ (j : Int) < (m : Int) := by omega
        have ejm : j = pd.length := by have := HM.out; have := HJ.out; omega
        have him2 : i < m := by have := HM.out; have := HJ.out; omega
        have hcap : m ≤ cap := own_cap H.out
        have hic : ¬ cap = i := by omega
        have hic2 : i ≤ cap := by omega
        have hiN : (i : Int) ≤ (m : Int) := by omega
        have hiC : (i : Int) ≤ (cap : Int) := by omega
        obtain ⟨zs, hzs⟩ : ∃ zs, (Builtin.zeroCells (Value.agg (cgA ⟨#[]⟩ 0 0 (zeros 64))).cells (m - i)).toList = zs := ⟨_, rfl⟩
        have hzl : zs.length = (m - i) * 67 := by rw [← hzs]; exact zeroCg_len _
        have hcl0 : (cgCells q).length = m * 67 := by rw [cgCells_len q HQO.out, HQL.out, HM.out]
        have hth : wr.there g (i * 67) zs.length := HBQ.out.there (by simp [hcl0, hzl]; omega)
        have hcl : ∀ ty, (Builtin.clear_ #[119] ty #[.slice (some ⟨g, i * 67, none⟩) (m - i) (cap - i)]).run Try.prog wr = .ok (.tuple #[]) (wr.setCells g (i * 67) zs) := fun ty => by
          rw [← hzs]
          exact run_clear_sliceN wr _ _ ty _ Try.underlying119 zeroCg g (i * 67) _ _ (by omega) (by rw [hzs]; exact hth) (zeroCg_one _)
        have HZL := Lib.hid hzl
        have HCL0 := Lib.hid hcl0
        clear hzs hzl hcl0 hth hql ejm
        go_wp2_with fail
        go_ret
        have ejm : j = pd.length := by have := HM.out; have := HJ.out; omega
        have eq1 : q.take i = pd.filter (notB s) := by rw [HQT.out, ejm, List.take_length]
        have hiq : i ≤ q.length := by have := HM.out; have := HQL.out; omega
        have hlen : (pd.filter (notB s)).length = i := by rw [← eq1, List.length_take, Nat.min_eq_left hiq]
        have hsp : cgCells q = cgCells (q.take i) ++ cgCells (q.drop i) := by
          unfold cgCells
          rw [← List.flatMap_append, List.take_append_drop]
        have hl1 : (cgCells (q.take i)).length = i * 67 := by rw [cgCells_len _ (fun c hc => HQO.out c (List.mem_of_mem_take hc)), List.length_take, Nat.min_eq_left hiq]
        have hl2 : (cgCells (q.drop i)).length = (m - i) * 67 := by rw [cgCells_len _ (fun c hc => HQO.out c (List.mem_of_mem_drop hc)), List.length_drop, HQL.out, HM.out]
        have hbk := HBQ.out
        rw [hsp] at hbk
        have hb2 := hbk.cellsL (xs := zs) (i * 67) hl1 (by rw [hl2, HZL.out])
        have hpl : (cgCells pd).length = m * 67 := by rw [cgCells_len pd HOK.out, HM.out]
        have hfl := HFL.out
        rw [List.length_append, hpl] at hfl
        refine ⟨some ⟨g, 0, none⟩, i, cap, rfl, ?_, hlen, ?_, fun b q => q⟩
        · rw [← eq1]
          rw [List.append_assoc] at hb2
          refine own_of hg hb2 hl1 ?_ hic2 HCX.out
          rw [List.length_append, List.length_append, hl1, HZL.out, Nat.sub_mul]
          have : i * 67 ≤ m * 67 := Nat.mul_le_mul_right _ (by omega)
          omega
        · have hk : Kp (OnB g) w (wr.setCells g (i * 67) zs) := Kp.setCells (.inr (show OnB g g from rfl)) _ _ _ HKQ.out
          exact hk.mono (fun b _ q => by show some g = some b; rw [show b = g from q])
end Go.Proofs.Ytegcbdfilkecpaa
/- The stand-in disk: Sync; no condition but on the texts' lengths and the counts. -/
namespace Go.Proofs.Ytegcbdfilkecpaa
open Go.RowKit

def SyPost (n0 : Nat) (w : World) (x : Dd) (p : Pl) (s : ByteArray) (e : Ending) (w' : World) : Prop := e = .returned (.int .i64 p.syncE) ∧ To n0 w x (p.sync s) w'
/-- the changes put anew, the disk's cell stored -/
theorem Dk.pendAll {n0 : Nat} {w w1 : World} {x : Dd} (h : Dk n0 w x) (k : Kp NoB w w1) (pv : Value) (pd : List Cg) (ho : w1.ownsRow w.heap.size 148 67 pv pd.length (cgCells pd)) (hn : n0 ≤ w.heap.size) (hs : ∀ c ∈ pd, CgOk c) :
    Dk n0 (w1.setCell ⟨x.db, 1, none⟩ pv) { x with pv := pv, pd := pd } ∧ Kp x.O w (w1.setCell ⟨x.db, 1, none⟩ pv) ∧ ∀ b, ({ x with pv := pv, pd := pd } : Dd).O b → x.O b ∨ w.heap.size ≤ b := by
  have hB : Blk w1 x.db 121 (diskCells x) := h.blk.keep k (fun q => q)
  have k2 : Kp (fun b => b = x.db ∨ x.pv.ownBlock = some b) w (w1.setCell ⟨x.db, 1, none⟩ pv) := (k.mono (S' := fun b => b = x.db ∨ x.pv.ownBlock = some b) (fun _ _ q => q.elim)).setAt (.inl rfl) _ _
  refine ⟨h.pended k2 pv pd (by
    have := hB.set_ 1 pv
    simpa [diskCells] using this) (by
    refine own_keepB (ho.mono hn) ((Kp.refl (OnB x.db) w1).setAt rfl 1 pv) (fun g hg' q => ?_)
    have := (ho.lt g hg').1
    have h2 := h.blk.lt
    rw [show g = x.db from q] at this
    omega) hs, k2.pendO, O_pend (w := w) (fun b hb => .inr (ho.lt b hb).1)⟩
set_option maxRecDepth 100000 in
set_option maxHeartbeats 800000 in
theorem sync_ok (w : World) (n0 : Nat) (x : Dd) (p : Pl) (s : ByteArray) (h : Dk n0 w x) (hp : Of x p) (hs : s.size ≤ maxLen) (hn0 : n0 ≤ w.heap.size)
    (hm : p.nf < 1099511627776 - 10) (hpd : p.pd.length < 1099511627776 - 20000) :
    Calls Try.prog 88 #[ptrV x.db, .string s] w (SyPost n0 w x p s) := by
  have kb : Kp NoB w (w.alloc (.cells #[.string s] 9)) := (Kp.refl NoB w).alloc _
  have hb0 : Blk (w.alloc (.cells #[.string s] 9)) w.heap.size 9 #[.string s] := Blk.new _ _ _
  have h1 := h.keep kb (fun _ _ q => q) (fun _ _ _ q => q)
  have H := Lib.hid h1
  have H0 := Lib.hid h
  have HP := Lib.hid hp
  have HS := Lib.hid hs
  have HN0 := Lib.hid (show n0 ≤ (w.alloc (.cells #[.string s] 9)).heap.size from Nat.le_trans hn0 kb.size)
  have HM := Lib.hid hm
  have HPD := Lib.hid hpd
  have HKB := Lib.hid kb
  have HB0 := Lib.hid hb0
  obtain ⟨db, hdb⟩ : ∃ db, x.db = db := ⟨_, rfl⟩
  have HX := Lib.hid hdb
  rw [hdb]
  obtain ⟨B, hBB⟩ : ∃ B, w.heap.size = B := ⟨_, rfl⟩
  have HBB := Lib.hid hBB
  unfold ptrV
  rcases hdn : p.down with _ | _
  · have HDN := Lib.hid hdn
    rcases (show p.stepE = 0 ∨ p.stepE = 7 by unfold Pl.stepE; split <;> omega) with hst | hst
    · have HST := Lib.hid hst
      clear h hp hs hn0 hm hpd hdb hdn kb hb0 h1 hst hBB
      go_enter Try.func88, Try.ntmps88
      go_wp2_with (go_at_call 80; go_must (refine (show Calls _ _ #[ptrV db] _ _ by rw [← HX.out]; exact wrong_p _ n0 x p H.out HP.out false HDN.out).mono ?_); rintro e w2 ⟨rfl, rfl⟩)
      refine (show Calls _ _ #[ptrV db] _ _ by rw [← HX.out]; exact step_p _ n0 x p H.out HP.out).mono ?_
      rintro e w1 ⟨rfl, x1, hd1, hp1, hx1, hk1, ho1⟩
      rw [HST.out]
      have HD1 := Lib.hid hd1
      have HP1 := Lib.hid hp1
      have HX1 : Hid (x1.db = db) := Lib.hid (hx1.trans HX.out)
      have HX1' := Lib.hid hx1
      have HK1 := Lib.hid hk1
      have HO1 := Lib.hid ho1
      have hB1 : Blk w1 w.heap.size 9 #[.string s] := HB0.out.keep hk1 (fun q => by have := H0.out.lt _ q; omega)
      have HB1 := Lib.hid hB1
      have cB1 : w1.cell? ⟨w.heap.size, 0, none⟩ = some (.string s) := by rw [hB1.cell]; rfl
      clear hd1 hp1 hx1 hk1 ho1 hB1
      go_wp2_with fail
      refine (show Calls _ _ #[ptrV db, .string s] _ _ by rw [← HX1.out]; exact at_ok _ n0 x1 s HS.out (by have h1 : x1.mn ≤ p.nf := HP1.out.nf; have := HM.out; omega) (Nat.le_trans HN0.out HK1.out.size) HD1.out).mono ?_
      rintro e w5 ⟨e0, m2, rfl, hd5, hm5, hnm5, hsn5, hkp5, hk5, hfb5⟩
      have HD5 := Lib.hid hd5
      have HE5 := Lib.hid (show e0.nm = s ∧ e0.seen = p.seen s ∧ e0.kept = p.kept s from ⟨hnm5, by rw [hsn5, HP1.out.seen_eq]; rfl, by rw [hkp5, HP1.out.kept_eq]; rfl⟩)
      have HK5 := Lib.hid hk5
      have HF0 := Lib.hid (findF_some (show findF (putF x1.fs e0) (kOf e0.nm) = some e0 by rw [putF_find, if_pos rfl])).1
      have HO5 := Lib.hid (O_at (m := m2) HD1.out hk5 hfb5)
      have HQ5 := Lib.hid (HP1.out.at_ e0 m2 hm5 (by rw [hsn5, hnm5]) (by rw [hkp5, hnm5]))
      obtain ⟨u, v, hb, hu, hv⟩ := (hd5.fls e0 HF0.out).blk
      obtain ⟨A5, cap5, rfl⟩ := hu.form
      obtain ⟨Av, capv, rfl⟩ := hv.form
      have HB5 := Lib.hid hb
      have HU5 := Lib.hid hu
      obtain ⟨L, hL⟩ : ∃ L, e0.seen.length = L := ⟨_, rfl⟩
      obtain ⟨L2, hL2⟩ : ∃ L, e0.kept.length = L := ⟨_, rfl⟩
      have HLL := Lib.hid hL
      obtain ⟨fb, hfb⟩ : ∃ fb, e0.fb = fb := ⟨_, rfl⟩
      have HFB := Lib.hid hfb
      have c5 : w5.cell? ⟨fb, 0, none⟩ = some (.slice A5 L cap5) := by rw [← hfb, hb.cell, ← hL]; rfl
      have c6 : w5.cell? ⟨fb, 1, none⟩ = some (.slice Av L2 capv) := by rw [← hfb, hb.cell, ← hL2]; rfl
      have z6 : w5.frozen? ⟨fb, 1, none⟩ = false := by rw [← hfb]; exact hb.frozen 1
      rw [show ptrV e0.fb = .pointer (some ⟨fb, 0, none⟩) by rw [hfb]; rfl]
      clear hb hu hv hd5 hm5 hnm5 hsn5 hkp5 hk5 hfb5 hfb hL hL2
      go_upto_region 8 with fail
      have hk56 : Kp (OnB fb) w5 (w5.setCell ⟨fb, 1, none⟩ (.slice A5 L cap5)) := (Kp.refl (OnB fb) w5).setAt rfl _ _
      have hb6 : Blk (w5.setCell ⟨fb, 1, none⟩ (.slice A5 L cap5)) fb 143 #[.slice A5 L cap5, .slice A5 L cap5] := by
        have := HB5.out.set_ 1 (.slice A5 L cap5)
        rw [HFB.out, HLL.out] at this
        exact this
      have hd6 := HD5.out.refile HF0.out (by rw [HFB.out]; exact hk56) { e0 with kept := e0.seen } rfl rfl ⟨⟨.slice A5 L cap5, .slice A5 L cap5, by rw [← HFB.out] at hb6 ⊢; exact hb6, by have := HU5.out.keep hk56 (fun g cs' hc q => onb_cells HB5.out hc (by decide) (by rw [HFB.out]; exact q)); rw [HLL.out] at this; exact this, by have := HU5.out.keep hk56 (fun g cs' hc q => onb_cells HB5.out hc (by decide) (by rw [HFB.out]; exact q)); rw [HLL.out] at this; exact this⟩, (HD5.out.fls e0 HF0.out).ls, (HD5.out.fls e0 HF0.out).ls⟩
      generalize w5.setCell ⟨fb, 1, none⟩ (.slice A5 L cap5) = w6 at hk56 hd6 ⊢
      obtain ⟨x3, hx3⟩ : ∃ x3 : Dd, ({ x1 with fs := putF (putF x1.fs e0) { e0 with kept := e0.seen }, mn := m2 } : Dd) = x3 := ⟨_, rfl⟩
      have HX3 : Hid (x3.db = db ∧ x3.pv = x1.pv ∧ x3.pd = p.pd) := Lib.hid (by rw [← hx3]; exact ⟨HX1.out, rfl, HP1.out.pd.symm⟩)
      have HQ3 : Hid (Of x3 (p.step.at_.setKept s (p.seen s))) := Lib.hid (by
        have := HQ5.out.setKept { e0 with kept := e0.seen } (by simp only [seenOf_put, upd_same])
        rw [hx3] at this
        have e2 := HE5.out.1
        have e3 := HE5.out.2.1
        simp only [e2, e3] at this
        exact this)
      have HD3 : Hid (Dk n0 w6 x3) := Lib.hid (by rw [← hx3]; exact hd6)
      have HO3 : Hid (Kp x.O (w.alloc (.cells #[.string s] 9)) w6 ∧ ∀ b, x3.O b → x.O b ∨ (w.alloc (.cells #[.string s] 9)).heap.size ≤ b) := Lib.hid (by
        have o3 : ∀ b, x3.O b → x1.O b ∨ w1.heap.size ≤ b := fun b hb => HO5.out.2 b (O_put (x := { x1 with fs := putF x1.fs e0, mn := m2 }) (e := { e0 with kept := e0.seen }) ⟨e0, HF0.out, rfl⟩ b (by rw [hx3]; exact hb))
        have k5 : Kp x1.O w1 w6 := HO5.out.1.trans hk56 (fun i hi q => by
          rcases HO5.out.2 i (.inr (.inr (.inr ⟨e0, HF0.out, by rw [HFB.out]; exact q⟩))) with q | q
          · exact q
          · omega)
        refine ⟨HK1.out.trans k5 (fun i hi q => ?_), fun b hb => ?_⟩
        · rcases HO1.out i q with q | q
          · exact q
          · omega
        · rcases o3 b hb with q | q
          · exact HO1.out b q
          · exact .inr (Nat.le_trans HK1.out.size q))
      have hB6 : Blk w6 w.heap.size 9 #[.string s] := HB0.out.keep HO3.out.1 (fun q => by have := H0.out.lt _ q; omega)
      have HB6 := Lib.hid hB6
      have HN6 := Lib.hid (Nat.le_trans HN0.out HO3.out.1.size)
      obtain ⟨pl, hpl⟩ : ∃ pl, p.pd.length = pl := ⟨_, rfl⟩
      have HPL := Lib.hid hpl
      have hpf := own_slice HD3.out.pend
      simp only [HX3.out.2.2, hpl] at hpf
      obtain ⟨Ap, kp, hpv⟩ := hpf
      have HPV := Lib.hid hpv
      have c1 : w6.cell? ⟨db, 1, none⟩ = some (.slice Ap pl kp) := by rw [← HX3.out.1, HD3.out.blk.cell, ← hpv]; rfl
      clear hk56 hb6 hd6 hx3 hB6 hpl hpv c5 c6 z6
      go_wp2_with fail
      refine (cloneCg_ok w6 n0 Ap pl kp p.pd HPL.out (by have := HPD.out; rw [HPL.out] at this; omega) (by rw [← HX3.out.2.2]; exact HD3.out.s64) (by have := HD3.out.pend; rw [HX3.out.2.2, HPL.out, HPV.out] at this; exact this)).mono ?_
      rintro e w7 ⟨A7, c7, rfl, ho7, hk7⟩
      rw [HPL.out] at ho7 ⊢
      have HO7 := Lib.hid ho7
      have HK7 := Lib.hid hk7
      clear ho7 hk7
      go_wp2_with fail
      refine (del_ok w7 w6.heap.size w.heap.size s A7 pl c7 p.pd HPL.out (by have := HPD.out; rw [HPL.out] at this; omega) (by rw [← HX3.out.2.2]; exact HD3.out.s64) HO7.out (HB6.out.keep HK7.out (fun q => q))).mono ?_
      rintro e w8 ⟨A8, k8, c8, rfl, ho8, hl8, hk8, hown8⟩
      have k68 : Kp NoB w6 w8 := HK7.out.trans hk8 (fun i hi q => by have := (HO7.out.lt i q).1; omega)
      have HK68 := Lib.hid k68
      have HALL := Lib.hid (HD3.out.pendAll k68 (.slice A8 k8 c8) (p.pd.filter (notB s)) (by rw [hl8]; exact ho8) HN6.out (fun c hc => HD3.out.s64 c (by rw [HX3.out.2.2]; exact (List.mem_filter.1 hc).1)))
      have c8' : w8.cell? ⟨db, 1, none⟩ = some (.slice Ap pl kp) := by rw [k68.cell (by rw [← HX3.out.1]; exact HD3.out.blk.lt) (fun q => q)]; exact c1
      have z8 : w8.frozen? ⟨db, 1, none⟩ = false := by rw [← HX3.out.1]; exact (HD3.out.blk.keep k68 (fun q => q)).frozen 1
      clear ho8 hl8 hk8 hown8 k68 c1
      go_wp2_with fail
      go_ret
      have hall := HALL.out
      have hT : To n0 (w.alloc (.cells #[.string s] 9)) x { p.step.at_.setKept s (p.seen s) with pd := p.pd.filter (notB s) } (w8.setCell ⟨x3.db, 1, none⟩ (.slice A8 k8 c8)) := by
        refine ⟨_, hall.1, { HQ3.out with pd := rfl }, HX3.out.1.trans HX.out.symm, HO3.out.1.trans hall.2.1 (fun i hi q => ?_), fun b hb => ?_⟩
        · rcases HO3.out.2 i q with q | q
          · exact q
          · omega
        · rcases hall.2.2 b hb with q | q
          · exact HO3.out.2 b q
          · exact .inr (Nat.le_trans HO3.out.1.size q)
      refine ⟨?_, ?_⟩
      · unfold Pl.syncE; rw [HDN.out, HST.out]; rfl
      · unfold Pl.sync; rw [HDN.out, HST.out]; simp only [Bool.false_eq_true, if_false]; rw [if_neg (by omega), ← HX3.out.1]; exact hT.quiet HKB.out H0.out
    · have HST := Lib.hid hst
      clear h hp hs hn0 hm hpd hdb hdn kb hb0 h1 hst hBB
      go_enter Try.func88, Try.ntmps88
      go_wp2_with (first
        | (go_at_call 80; go_must (refine (show Calls _ _ #[ptrV db] _ _ by rw [← HX.out]; exact wrong_p _ n0 x p H.out HP.out false HDN.out).mono ?_); rintro e w2 ⟨rfl, rfl⟩)
        | (go_at_call 130; go_must (refine (show Calls _ _ #[ptrV db] _ _ by rw [← HX.out]; exact step_p _ n0 x p H.out HP.out).mono ?_); rintro e w1 ⟨rfl, ht1⟩; rw [HST.out]; have HT1 := Lib.hid ht1; clear ht1))
      go_ret
      refine ⟨?_, ?_⟩
      · unfold Pl.syncE; rw [HDN.out, HST.out]; rfl
      · unfold Pl.sync; rw [HDN.out, HST.out]; simp only [Bool.false_eq_true, if_false]; rw [if_pos (by omega)]; exact HT1.out.quiet HKB.out H0.out
  · have HDN := Lib.hid hdn
    clear h hp hs hn0 hm hpd hdb hdn kb hb0 h1 hBB
    go_enter Try.func88, Try.ntmps88
    go_wp2_with (go_at_call 80; go_must (refine (show Calls _ _ #[ptrV db] _ _ by rw [← HX.out]; exact wrong_p _ n0 x p H.out HP.out true HDN.out).mono ?_); rintro e w2 ⟨rfl, rfl⟩)
    go_ret
    refine ⟨?_, ?_⟩
    · unfold Pl.syncE; rw [HDN.out]; rfl
    · unfold Pl.sync; rw [HDN.out]; exact (To.refl H.out HP.out).quiet HKB.out H0.out
end Go.Proofs.Ytegcbdfilkecpaa
/- The stand-in disk: survive; no condition. -/
namespace Go.Proofs.Ytegcbdfilkecpaa
open Go.RowKit

def SvPost (n0 : Nat) (w : World) (x : Dd) (e : Fe) (c : Cg) (ch : Int) (w' : World) : Prop := Dk n0 w' { x with fs := putF x.fs { e with kept := Pl.made e.kept c ch } } ∧ Kp (OnB e.fb) w w'
theorem put_nil (l : List Int) (a : Nat) : Pl.put l a [] = l := by unfold Pl.put; simp
theorem Dk.keepE {n0 : Nat} {w w' : World} {x : Dd} (h : Dk n0 w x) {e : Fe} (he : e ∈ x.fs) (k : Kp NoB w w') : Dk n0 w' { x with fs := putF x.fs e } := by
  have : putF x.fs e = x.fs := putF_self (h.names.find he)
  rw [this]
  exact h.keep k (fun _ _ q => q) (fun _ _ _ q => q)
theorem surv_fin {n0 fb : Nat} {w W w2 : World} {x : Dd} {e : Fe} {u v v' : Value} {l : List Int} (h : Dk n0 W x) (he : e ∈ x.fs) (hfb : e.fb = fb) (kb : Kp NoB w W) (k : Kp NoB W w2) (hb : Blk W e.fb 143 #[u, v]) (hb2 : Blk w2 fb 143 #[u, v])
    (hu : Bq W n0 u e.seen) (hq : Bq w2 n0 v' l) (hls : e.seen.length ≤ 1048576) (hlk : l.length ≤ 1048576) :
    Dk n0 (w2.setCell ⟨fb, 1, none⟩ v') { x with fs := putF x.fs { e with kept := l } } ∧ Kp (OnB e.fb) w (w2.setCell ⟨fb, 1, none⟩ v') := by
  subst hfb
  have k2 : Kp (OnB e.fb) W (w2.setCell ⟨e.fb, 1, none⟩ v') := (k.mono (S' := OnB e.fb) (fun _ _ q => q.elim)).setAt rfl _ _
  have ks : Kp (OnB e.fb) w2 (w2.setCell ⟨e.fb, 1, none⟩ v') := (Kp.refl (OnB e.fb) w2).setAt rfl _ _
  have hb3 : Blk (w2.setCell ⟨e.fb, 1, none⟩ v') e.fb 143 #[u, v'] := by
    have := hb2.set_ 1 v'
    simpa using this
  exact ⟨h.refile he k2 { e with kept := l } rfl rfl ⟨⟨u, v', hb3, hu.keep k2 (fun g cs' hc q => onb_cells hb hc (by decide) q), hq.keep ks (fun g cs' hc q => onb_cells hb2 hc (by decide) q)⟩, hls, hlk⟩, (kb.mono (fun _ _ q => q.elim)).trans k2 (fun _ _ q => q)⟩
set_option maxRecDepth 100000 in
set_option maxHeartbeats 800000 in
theorem survive_ok (w : World) (n0 : Nat) (x : Dd) (e : Fe) (c : Cg) (ch : Int) (hch : -9223372036854775808 ≤ ch ∧ ch ≤ 9223372036854775807) (h : Dk n0 w x) (he : e ∈ x.fs) (hc : CgOk c) (hn0 : n0 ≤ w.heap.size) :
    Calls Try.prog 112 #[ptrV e.fb, .agg (cgA c.nm c.sec c.n (pad64 c.s)), .int .i64 ch] w fun r w' => r = .returned (.tuple #[]) ∧ SvPost n0 w x e c ch w' := by
  have kb : Kp NoB w (w.alloc (.cells (cgA c.nm c.sec c.n (pad64 c.s)) 148)) := (Kp.refl NoB w).alloc _
  have hb0 : Blk (w.alloc (.cells (cgA c.nm c.sec c.n (pad64 c.s)) 148)) w.heap.size 148 (cgA c.nm c.sec c.n (pad64 c.s)) := Blk.new _ _ _
  have HKB := Lib.hid kb
  have HB0 := Lib.hid hb0
  have H0 := Lib.hid h
  have H := Lib.hid (h.keep kb (fun _ _ q => q) (fun _ _ _ q => q))
  have HE := Lib.hid he
  have HC := Lib.hid hc
  have HN0 := Lib.hid (Nat.le_trans hn0 kb.size)
  obtain ⟨u, v, hb, hu, hv⟩ := (H.out.fls e he).blk
  obtain ⟨Av, capv, rfl⟩ := hv.form
  obtain ⟨fb, hfb⟩ : ∃ fb, e.fb = fb := ⟨_, rfl⟩
  have HFB := Lib.hid hfb
  obtain ⟨L, hL⟩ : ∃ L, e.kept.length = L := ⟨_, rfl⟩
  have HLL := Lib.hid hL
  rw [hL] at hv hb
  have HB := Lib.hid hb
  have HU := Lib.hid hu
  have HV := Lib.hid hv
  have hLk : L ≤ 1048576 := by rw [← hL]; exact (h.fls e he).lk
  have c1 : (w.alloc (.cells (cgA c.nm c.sec c.n (pad64 c.s)) 148)).cell? ⟨fb, 1, none⟩ = some (.slice Av L capv) := by rw [← hfb, hb.cell]; rfl
  have z1 : (w.alloc (.cells (cgA c.nm c.sec c.n (pad64 c.s)) 148)).frozen? ⟨fb, 1, none⟩ = false := by rw [← hfb]; exact hb.frozen 1
  have s1 : (w.alloc (.cells (cgA c.nm c.sec c.n (pad64 c.s)) 148)).cell? ⟨w.heap.size, 1, none⟩ = some (.int .i64 c.sec) := by rw [hb0.cell]; rfl
  have s2 : (w.alloc (.cells (cgA c.nm c.sec c.n (pad64 c.s)) 148)).cell? ⟨w.heap.size, 2, none⟩ = some (.int .i64 c.n) := by rw [hb0.cell]; rfl
  rw [show ptrV e.fb = .pointer (some ⟨fb, 0, none⟩) by rw [hfb]; rfl]
  by_cases h1 : ch ≤ 0
  · have fin : Hid (SvPost n0 w x e c ch (w.alloc (.cells (cgA c.nm c.sec c.n (pad64 c.s)) 148))) := Lib.hid (by
      unfold SvPost Pl.made
      rw [if_pos h1]
      exact ⟨h.keepE he kb, kb.mono (fun _ _ q => q.elim)⟩)
    clear kb hb0 h he hc hn0 hb hu hv hfb hL s1 s2 c1 z1
    go_enter Try.func112, Try.ntmps112
    go_wp2_with fail
    exact bodyPost_ret (results_none rfl _ _ _) rfl ⟨rfl, fin.out⟩
  · rcases hc.kind with ⟨hs0, hsec, hcn0, hcn1⟩ | ⟨hs64, hsec0, hsec1, hn⟩
    · obtain ⟨n, hn⟩ : ∃ n : Nat, c.n = n := ⟨c.n.toNat, by omega⟩
      have HNN := Lib.hid hn
      have HN1 : Hid (n ≤ 1048576) := Lib.hid (by omega)
      have HSEC := Lib.hid hsec
      have H1 := Lib.hid h1
      obtain ⟨B0, hB0⟩ : ∃ B0, w.heap.size = B0 := ⟨_, rfl⟩
      have HB00 := Lib.hid hB0
      clear kb hb0 h he hc hn0 hb hu hv hfb hL hs0 hsec hcn0 hcn1 hn s1 s2 c1 z1
      go_enter Try.func112, Try.ntmps112
      go_upto_region 1 with fail
      generalize hWW : w.alloc (.cells (cgA c.nm c.sec c.n (pad64 c.s)) 148) = W at *
      have HWW := Lib.hid hWW
      have hb0 := HB0.out
      rw [hB0] at hb0
      have s1 : W.cell? ⟨B0, 1, none⟩ = some (.int .i64 c.sec) := by rw [hb0.cell]; rfl
      have s2 : W.cell? ⟨B0, 2, none⟩ = some (.int .i64 c.n) := by rw [hb0.cell]; rfl
      have hb := HB.out
      rw [HFB.out] at hb
      have c1 : W.cell? ⟨fb, 1, none⟩ = some (.slice Av L capv) := by rw [hb.cell]; rfl
      rw [HSEC.out] at s1
      rw [HNN.out] at s2
      clear hWW hB0 hb0 hb
      go_upto_region 3 with fail
      go_region_law (first
        | (go_simp; go_at_call 154; go_must (refine (grow_ok W.drew n0 fb 1 _ Av L capv e.kept n HLL.out hLk HN1.out (by have := HN0.out; exact this) (by have := HB.out.drew; rw [HFB.out] at this; exact this) rfl HV.out.drew).mono ?_); rintro r w2 ⟨rfl, B, c2', hb2, hq2, hk2⟩; have HB2 := Lib.hid hb2; have HQ2 := Lib.hid hq2; have HK2 := Lib.hid hk2; clear hb2 hq2 hk2)
        | go_simp)
      go_wp2_with fail
      have hd2 := H.out.refile HE.out (w' := w2) (by rw [HFB.out]; exact (Kp.refl _ W).drew.trans HK2.out (fun _ _ q => q)) { e with kept := sizedF e.kept n } rfl rfl ⟨⟨u, .slice B n c2', by have := HB2.out; rw [← HFB.out] at this; simpa using this, HU.out.keep ((Kp.refl _ W).drew.trans HK2.out (fun _ _ q => q)) (fun g cs' hc q => onb_cells HB.out hc (by decide) (by rw [HFB.out]; exact q)), by simp only [sizedF_len]; exact HQ2.out⟩, (H0.out.fls e HE.out).ls, by simp only [sizedF_len]; exact HN1.out⟩
      exact bodyPost_ret (results_none rfl _ _ _) rfl ⟨rfl, by
        unfold SvPost Pl.made
        rw [if_neg (by have := H1.out; omega), if_pos (by rw [HSEC.out]; omega), HNN.out]
        exact ⟨hd2, by rw [HFB.out]; exact (HKB.out.mono (fun _ _ q => q.elim)).trans ((Kp.refl (OnB fb) W).drew.trans HK2.out (fun _ _ q => q)) (fun _ _ q => q)⟩⟩
    · obtain ⟨nn, hnn⟩ : ∃ nn : Nat, (if 1 < ch then (1 + (ch - 2) % 63).toNat else 64) = nn := ⟨_, rfl⟩
      have hnn1 : 1 ≤ nn ∧ nn ≤ 64 := by
        rw [← hnn]
        split <;> omega
      obtain ⟨at_, hat⟩ : ∃ a : Nat, c.sec.toNat * 64 = a := ⟨_, rfl⟩
      have hat1 : c.sec * 64 = (at_ : Int) := by omega
      have hw1 : IntKind.i64.wrap (c.sec * 64) = (at_ : Int) := by rw [IntKind.wrap_i64]; omega
      have hns : ¬ c.sec < 0 := by omega
      obtain ⟨sc, hsc⟩ : ∃ sc, c.sec = sc := ⟨_, rfl⟩
      have HSC := Lib.hid hsc
      rw [hsc] at hw1 hns hat1 hsec0 hsec1
      have HNN := Lib.hid hnn
      have HAT := Lib.hid hat
      have HS64 := Lib.hid hs64
      have H1 := Lib.hid h1
      obtain ⟨B0, hB0⟩ : ∃ B0, w.heap.size = B0 := ⟨_, rfl⟩
      have HB00 := Lib.hid hB0
      have hfin : ∀ cs : List Int, cs = (c.s.take nn).take (e.kept.length - at_) → Pl.made e.kept c ch = Pl.put e.kept at_ cs := by
        rintro cs rfl
        unfold Pl.made
        rw [if_neg h1, if_neg (by omega), hnn, hat]
      have HFIN := Lib.hid hfin
      clear kb hb0 h he hc hn0 hb hu hv hfb hL hs64 hn s1 s2 c1 z1 hnn hat hsc hfin
      by_cases hc1 : 1 < ch
      · have e1 : 1 + (ch - 2) % 63 = (nn : Int) := by have := HNN.out; rw [if_pos hc1] at this; omega
        have e0 : 0 ≤ ch - 2 := by omega
        have e3 : IntKind.i64.wrap (ch - 2) = ch - 2 := by rw [IntKind.wrap_i64]; omega
        go_enter Try.func112, Try.ntmps112
        go_upto_region 1 with fail
        have hWb := HB0.out
        rw [hB0] at hWb
        have HWB := Lib.hid hWb
        generalize hWW : w.alloc (.cells (cgA c.nm c.sec c.n (pad64 c.s)) 148) = W at *
        have HWW := Lib.hid hWW
        have s1 : W.cell? ⟨B0, 1, none⟩ = some (.int .i64 sc) := by rw [HWB.out.cell, ← HSC.out]; rfl
        have hb := HB.out
        rw [HFB.out] at hb
        have c1 : W.cell? ⟨fb, 1, none⟩ = some (.slice Av L capv) := by rw [hb.cell]; rfl
        have z1 : W.frozen? ⟨fb, 1, none⟩ = false := hb.frozen 1
        have HFL := Lib.hid hb.lt
        have HBF := Lib.hid hb
        have HWL := Lib.hid HWB.out.lt
        clear hWW hb hB0 hWb
        go_wp2_with fail
        refine (clone_ok W n0 Av L capv e.kept HLL.out.symm (by rw [HLL.out]; omega) HV.out).mono ?_
        rintro r w1 ⟨B1, k1, rfl, hq1, hk1⟩
        rw [HLL.out] at hq1 ⊢
        have c2 : w1.cell? ⟨fb, 1, none⟩ = some (.slice Av L capv) := by rw [hk1.cell HFL.out (fun q => q)]; exact c1
        have z2 : w1.frozen? ⟨fb, 1, none⟩ = false := (HBF.out.keep hk1 (fun q => q)).frozen 1
        have HBF1 := Lib.hid (HBF.out.keep hk1 (fun q => q))
        have HK1 := Lib.hid hk1
        have HQ1 := Lib.hid hq1
        by_cases hlt : at_ < L
        · obtain ⟨g1, ds1, rfl, hg1, hb1⟩ := own_blk1 (by have := hq1.own; rw [HLL.out] at this; exact this) (by omega)
          have hcap1 : L ≤ k1 := own_cap (by have := hq1.own; rw [HLL.out] at this; exact this)
          have HG1 := Lib.hid hg1
          have h1 : (at_ : Int) < (L : Int) := by omega
          have h2 : ¬ k1 = at_ := by omega
          have h3 : at_ ≤ k1 := by omega
          have h4 : at_ ≤ L := by omega
          have h5 : (at_ : Int) ≤ (L : Int) := by omega
          have h6 : (nn : Int) ≤ 64 := by omega
          have h7 : nn ≤ 64 := by omega
          obtain ⟨cs, hcs⟩ : ∃ cs, ((c.s.take nn).take (L - at_)).map (Value.int .u8) = cs := ⟨_, rfl⟩
          have HCS := Lib.hid hcs
          have HCSL : Hid (cs.length = Nat.min nn (L - at_)) := Lib.hid (by rw [← hcs, List.length_map, List.length_take, List.length_take, HS64.out, Nat.min_eq_left (show nn ≤ 64 by omega)]; exact Nat.min_comm _ _)
          have HSRC : Hid (∀ j v, cs[j]? = some v → w1.drew.cell? ((⟨B0, 3, none⟩ : Addr).add j) = some v) := Lib.hid (by
            intro j v hj
            rw [add_mk]
            have hB := (HWB.out.keep HK1.out (fun q => q))
            have : w1.drew.cell? ⟨B0, 3 + j, none⟩ = w1.cell? ⟨B0, 3 + j, none⟩ := rfl
            rw [this, hB.cell]
            rw [← HCS.out, List.getElem?_map, List.getElem?_take] at hj
            split at hj
            · rw [List.getElem?_take] at hj
              split at hj
              · unfold cgA cgL
                rw [pad64_full HS64.out]
                simp only [List.getElem?_toArray]
                rw [show 3 + j = j + 1 + 1 + 1 by omega]
                simp only [List.getElem?_cons_succ, List.getElem?_map]
                exact hj
              · cases hj
            · cases hj)
          have HTH : Hid (w1.drew.there g1 at_ cs.length) := Lib.hid (hb1.drew.there (by rw [HCSL.out]; have hmm : Nat.min nn (L - at_) ≤ L - at_ := Nat.min_le_right _ _; simp only [List.size_toArray, List.length_append, List.length_map, HLL.out]; omega))
          have HONE : Hid (∀ v ∈ cs, v.oneCell' = true) := Lib.hid (by rw [← HCS.out]; exact u8_one _)
          have HGF : Hid (fb ≠ g1) := Lib.hid (by have := HFL.out; omega)
          clear hb1 hcs c1 z1 hq1 hg1
          go_upto_region 10 with fail
          go_region_law (first
            | (refine step_copyC rfl (.tmp 43) (.tmp 46) 42 42 rfl 5 Try.underlying42 infoU8 g1 at_ (L - at_) (k1 - at_) ⟨B0, 3, none⟩ nn 64 cs (by go_simp) (by go_simp) HCSL.out HSRC.out HTH.out HONE.out ?_)
            | go_simp)
          have hq2 : Bq (w1.drew.setCells g1 at_ cs) W.heap.size (.slice (some ⟨g1, 0, none⟩) L k1) (Pl.put e.kept at_ ((c.s.take nn).take (L - at_))) := by
            rw [← HCS.out]
            refine bq_write HQ1.out.drew HLL.out at_ _ ?_ ?_
            · rw [HLL.out, List.length_take, List.length_take, HS64.out]; omega
            · intro y hy; exact HC.out.rng y (List.mem_of_mem_take (List.mem_of_mem_take hy))
          have hk2 : Kp NoB W (w1.drew.setCells g1 at_ cs) := Kp.setCells (.inl HG1.out) _ _ _ HK1.out.drew
          have hbf2 : Blk (w1.drew.setCells g1 at_ cs) fb 143 #[u, .slice Av L capv] := Blk.farCells HGF.out _ _ _ HBF1.out.drew
          generalize w1.drew.setCells g1 at_ cs = w2 at hq2 hk2 hbf2 ⊢
          have c3 : w2.cell? ⟨fb, 1, none⟩ = some (.slice Av L capv) := by rw [hbf2.cell]; rfl
          have z3 : w2.frozen? ⟨fb, 1, none⟩ = false := hbf2.frozen 1
          have HQ2 := Lib.hid hq2
          have HK2 := Lib.hid hk2
          have HBF2 := Lib.hid hbf2
          have HF := Lib.hid (HFIN.out _ rfl)
          clear hq2 hk2 hbf2 c2 z2
          go_wp2_with fail
          refine bodyPost_end (results_none rfl _ _ _) rfl ⟨rfl, ?_⟩
          unfold SvPost
          rw [HF.out, HLL.out]
          have hn0 := HN0.out
          have hpl : (Pl.put e.kept at_ ((c.s.take nn).take (L - at_))).length ≤ 1048576 := by
            rw [put_len (by rw [HLL.out, List.length_take, List.length_take, HS64.out]; omega), HLL.out]; exact hLk
          exact surv_fin H.out HE.out HFB.out HKB.out HK2.out HB.out HBF2.out HU.out (HQ2.out.mono hn0) (H0.out.fls e HE.out).ls hpl
        · have h1 : ¬ (at_ : Int) < (L : Int) := by omega
          have HF := Lib.hid (HFIN.out [] (by rw [HLL.out, show L - at_ = 0 by omega]; simp))
          clear hq1 c1 z1
          go_wp2_with fail
          refine bodyPost_end (results_none rfl _ _ _) rfl ⟨rfl, ?_⟩
          unfold SvPost
          rw [HF.out, put_nil]
          exact surv_fin H.out HE.out HFB.out HKB.out HK1.out HB.out HBF1.out HU.out (HQ1.out.mono HN0.out) (H0.out.fls e HE.out).ls (by rw [HLL.out]; exact hLk)
      · have e1 : nn = 64 := by have := HNN.out; rw [if_neg hc1] at this; omega
        subst e1
        go_enter Try.func112, Try.ntmps112
        go_upto_region 1 with fail
        have hWb := HB0.out
        rw [hB0] at hWb
        have HWB := Lib.hid hWb
        generalize hWW : w.alloc (.cells (cgA c.nm c.sec c.n (pad64 c.s)) 148) = W at *
        have HWW := Lib.hid hWW
        have s1 : W.cell? ⟨B0, 1, none⟩ = some (.int .i64 sc) := by rw [HWB.out.cell, ← HSC.out]; rfl
        have hb := HB.out
        rw [HFB.out] at hb
        have c1 : W.cell? ⟨fb, 1, none⟩ = some (.slice Av L capv) := by rw [hb.cell]; rfl
        have z1 : W.frozen? ⟨fb, 1, none⟩ = false := hb.frozen 1
        have HFL := Lib.hid hb.lt
        have HBF := Lib.hid hb
        have HWL := Lib.hid HWB.out.lt
        clear hWW hb hB0 hWb
        go_wp2_with fail
        refine (clone_ok W n0 Av L capv e.kept HLL.out.symm (by rw [HLL.out]; omega) HV.out).mono ?_
        rintro r w1 ⟨B1, k1, rfl, hq1, hk1⟩
        rw [HLL.out] at hq1 ⊢
        have c2 : w1.cell? ⟨fb, 1, none⟩ = some (.slice Av L capv) := by rw [hk1.cell HFL.out (fun q => q)]; exact c1
        have z2 : w1.frozen? ⟨fb, 1, none⟩ = false := (HBF.out.keep hk1 (fun q => q)).frozen 1
        have HBF1 := Lib.hid (HBF.out.keep hk1 (fun q => q))
        have HK1 := Lib.hid hk1
        have HQ1 := Lib.hid hq1
        by_cases hlt : at_ < L
        · obtain ⟨g1, ds1, rfl, hg1, hb1⟩ := own_blk1 (by have := hq1.own; rw [HLL.out] at this; exact this) (by omega)
          have hcap1 : L ≤ k1 := own_cap (by have := hq1.own; rw [HLL.out] at this; exact this)
          have HG1 := Lib.hid hg1
          have h1 : (at_ : Int) < (L : Int) := by omega
          have h2 : ¬ k1 = at_ := by omega
          have h3 : at_ ≤ k1 := by omega
          have h4 : at_ ≤ L := by omega
          have h5 : (at_ : Int) ≤ (L : Int) := by omega
          have h6 : (64 : Int) ≤ 64 := by omega
          have h7 : 64 ≤ 64 := by omega
          obtain ⟨cs, hcs⟩ : ∃ cs, ((c.s.take 64).take (L - at_)).map (Value.int .u8) = cs := ⟨_, rfl⟩
          have HCS := Lib.hid hcs
          have HCSL : Hid (cs.length = Nat.min 64 (L - at_)) := Lib.hid (by rw [← hcs, List.length_map, List.length_take, List.length_take, HS64.out, Nat.min_eq_left (show 64 ≤ 64 by omega)]; exact Nat.min_comm _ _)
          have HSRC : Hid (∀ j v, cs[j]? = some v → w1.drew.cell? ((⟨B0, 3, none⟩ : Addr).add j) = some v) := Lib.hid (by
            intro j v hj
            rw [add_mk]
            have hB := (HWB.out.keep HK1.out (fun q => q))
            have : w1.drew.cell? ⟨B0, 3 + j, none⟩ = w1.cell? ⟨B0, 3 + j, none⟩ := rfl
            rw [this, hB.cell]
            rw [← HCS.out, List.getElem?_map, List.getElem?_take] at hj
            split at hj
            · rw [List.getElem?_take] at hj
              split at hj
              · unfold cgA cgL
                rw [pad64_full HS64.out]
                simp only [List.getElem?_toArray]
                rw [show 3 + j = j + 1 + 1 + 1 by omega]
                simp only [List.getElem?_cons_succ, List.getElem?_map]
                exact hj
              · cases hj
            · cases hj)
          have HTH : Hid (w1.drew.there g1 at_ cs.length) := Lib.hid (hb1.drew.there (by rw [HCSL.out]; have hmm : Nat.min 64 (L - at_) ≤ L - at_ := Nat.min_le_right _ _; simp only [List.size_toArray, List.length_append, List.length_map, HLL.out]; omega))
          have HONE : Hid (∀ v ∈ cs, v.oneCell' = true) := Lib.hid (by rw [← HCS.out]; exact u8_one _)
          have HGF : Hid (fb ≠ g1) := Lib.hid (by have := HFL.out; omega)
          clear hb1 hcs c1 z1 hq1 hg1
          go_upto_region 10 with fail
          go_region_law (first
            | (refine step_copyC rfl (.tmp 43) (.tmp 46) 42 42 rfl 5 Try.underlying42 infoU8 g1 at_ (L - at_) (k1 - at_) ⟨B0, 3, none⟩ 64 64 cs (by go_simp) (by go_simp) HCSL.out HSRC.out HTH.out HONE.out ?_)
            | go_simp)
          have hq2 : Bq (w1.drew.setCells g1 at_ cs) W.heap.size (.slice (some ⟨g1, 0, none⟩) L k1) (Pl.put e.kept at_ ((c.s.take 64).take (L - at_))) := by
            rw [← HCS.out]
            refine bq_write HQ1.out.drew HLL.out at_ _ ?_ ?_
            · rw [HLL.out, List.length_take, List.length_take, HS64.out]; omega
            · intro y hy; exact HC.out.rng y (List.mem_of_mem_take (List.mem_of_mem_take hy))
          have hk2 : Kp NoB W (w1.drew.setCells g1 at_ cs) := Kp.setCells (.inl HG1.out) _ _ _ HK1.out.drew
          have hbf2 : Blk (w1.drew.setCells g1 at_ cs) fb 143 #[u, .slice Av L capv] := Blk.farCells HGF.out _ _ _ HBF1.out.drew
          generalize w1.drew.setCells g1 at_ cs = w2 at hq2 hk2 hbf2 ⊢
          have c3 : w2.cell? ⟨fb, 1, none⟩ = some (.slice Av L capv) := by rw [hbf2.cell]; rfl
          have z3 : w2.frozen? ⟨fb, 1, none⟩ = false := hbf2.frozen 1
          have HQ2 := Lib.hid hq2
          have HK2 := Lib.hid hk2
          have HBF2 := Lib.hid hbf2
          have HF := Lib.hid (HFIN.out _ rfl)
          clear hq2 hk2 hbf2 c2 z2
          go_wp2_with fail
          refine bodyPost_end (results_none rfl _ _ _) rfl ⟨rfl, ?_⟩
          unfold SvPost
          rw [HF.out, HLL.out]
          have hn0 := HN0.out
          have hpl : (Pl.put e.kept at_ ((c.s.take 64).take (L - at_))).length ≤ 1048576 := by
            rw [put_len (by rw [HLL.out, List.length_take, List.length_take, HS64.out]; omega), HLL.out]; exact hLk
          exact surv_fin H.out HE.out HFB.out HKB.out HK2.out HB.out HBF2.out HU.out (HQ2.out.mono hn0) (H0.out.fls e HE.out).ls hpl
        · have h1 : ¬ (at_ : Int) < (L : Int) := by omega
          have HF := Lib.hid (HFIN.out [] (by rw [HLL.out, show L - at_ = 0 by omega]; simp))
          clear hq1 c1 z1
          go_wp2_with fail
          refine bodyPost_end (results_none rfl _ _ _) rfl ⟨rfl, ?_⟩
          unfold SvPost
          rw [HF.out, put_nil]
          exact surv_fin H.out HE.out HFB.out HKB.out HK1.out HB.out HBF1.out HU.out (HQ1.out.mono HN0.out) (H0.out.fls e HE.out).ls (by rw [HLL.out]; exact hLk)
end Go.Proofs.Ytegcbdfilkecpaa
/- The stand-in disk: Restart, its plain parts; no condition. -/
namespace Go.Proofs.Ytegcbdfilkecpaa
open Go.RowKit

/-- a slice of numbers in memory -/
def Nums (w : World) (A : Option Addr) (n : Nat) (xs : List Int) : Prop :=
  xs.length = n ∧ (0 < n → ∃ g o, A = some ⟨g, o, none⟩ ∧ g < w.heap.size ∧ ∀ k, k < n → w.cell? ⟨g, o + k, none⟩ = some (.int .i64 (xs.getD k 0)))
theorem Nums.keep {S : Nat → Prop} {w w' : World} {A : Option Addr} {n : Nat} {xs : List Int} (h : Nums w A n xs) (k : Kp S w w') (hS : ∀ g o, A = some ⟨g, o, none⟩ → ¬ S g) : Nums w' A n xs :=
  ⟨h.1, fun hn => by
    obtain ⟨g, o, e, hg, hc⟩ := h.2 hn
    exact ⟨g, o, e, Nat.lt_of_lt_of_le hg k.size, fun j hj => (k.cell hg (hS g o e)).trans (hc j hj)⟩⟩
theorem survive_snoc (p : Pl) : ∀ (cs : List Cg) (chs : List Int), cs.length = chs.length → ∀ (c : Cg) (ch : Int), p.survive (cs ++ [c]) (chs ++ [ch]) = ((p.survive cs chs).at_).setKept c.nm (Pl.made ((p.survive cs chs).kept c.nm) c ch) := by
  intro cs
  induction cs generalizing p with
  | nil =>
    intro chs h c ch
    have : chs = [] := List.eq_nil_of_length_eq_zero (by simpa using h.symm)
    subst this
    simp [Pl.survive]
  | cons x cs ih =>
    intro chs h c ch
    cases chs with
    | nil => simp at h
    | cons y chs =>
      simp only [List.cons_append, Pl.survive]
      exact ih _ chs (by simpa using h) c ch
theorem survive_more (p : Pl) : ∀ (cs ds : List Cg) (chs : List Int), chs.length ≤ cs.length → p.survive (cs ++ ds) chs = p.survive cs chs := by
  intro cs
  induction cs generalizing p with
  | nil =>
    intro ds chs h
    have : chs = [] := List.eq_nil_of_length_eq_zero (by simpa using h)
    subst this
    cases ds <;> simp [Pl.survive]
  | cons x cs ih =>
    intro ds chs h
    cases chs with
    | nil => simp [Pl.survive]
    | cons y chs =>
      simp only [List.cons_append, Pl.survive]
      exact ih _ ds chs (by simpa using h)
theorem survive_take (p : Pl) : ∀ (cs : List Cg) (chs : List Int), p.survive cs (chs.take cs.length) = p.survive cs chs := by
  intro cs
  induction cs generalizing p with
  | nil => intro chs; cases chs <;> simp [Pl.survive]
  | cons x cs ih =>
    intro chs
    cases chs with
    | nil => simp [Pl.survive]
    | cons y chs =>
      simp only [List.length_cons, List.take_succ_cons, Pl.survive]
      exact ih _ chs
theorem survive_pd (p : Pl) : ∀ (cs : List Cg) (chs : List Int), (p.survive cs chs).pd = p.pd ∧ (p.survive cs chs).nf ≤ p.nf + cs.length ∧ (p.survive cs chs).starts = p.starts ∧ (p.survive cs chs).room = p.room ∧ (p.survive cs chs).steps = p.steps ∧ (p.survive cs chs).crash = p.crash ∧ (p.survive cs chs).down = p.down := by
  intro cs
  induction cs generalizing p with
  | nil => intro chs; cases chs <;> simp [Pl.survive]
  | cons x cs ih =>
    intro chs
    cases chs with
    | nil => simp [Pl.survive]
    | cons y chs =>
      simp only [Pl.survive]
      obtain ⟨h1, h2, h3, h4, h5, h6, h7⟩ := ih (p.at_.setKept x.nm (Pl.made (p.kept x.nm) x y)) chs
      refine ⟨h1, ?_, h3, h4, h5, h6, h7⟩
      simp only [List.length_cons]
      have : (p.at_.setKept x.nm (Pl.made (p.kept x.nm) x y)).nf = p.nf + 1 := rfl
      omega
/-- one change survived: the next step -/
theorem survive_next (p : Pl) (pd : List Cg) (chs : List Int) (i : Nat) (c : Cg) (hc : pd[i]? = some c) :
    (∀ ch, chs[i]? = some ch → p.survive (pd.take (i + 1)) (chs.take (i + 1)) = ((p.survive (pd.take i) (chs.take i)).at_).setKept c.nm (Pl.made ((p.survive (pd.take i) (chs.take i)).kept c.nm) c ch)) ∧
    (chs.length ≤ i → p.survive (pd.take (i + 1)) (chs.take (i + 1)) = p.survive (pd.take i) (chs.take i)) := by
  have hi : i < pd.length := (List.getElem?_eq_some_iff.1 hc).1
  refine ⟨fun ch hch => ?_, fun hle => ?_⟩
  · have hi2 : i < chs.length := (List.getElem?_eq_some_iff.1 hch).1
    rw [List.take_add_one, hc, List.take_add_one, hch]
    exact survive_snoc p _ _ (by simp; omega) c ch
  · rw [List.take_of_length_le (l := chs) (i := i + 1) (by omega), List.take_of_length_le (l := chs) (i := i) hle, List.take_add_one, hc]
    exact survive_more p _ _ _ (by rw [List.length_take]; omega)
/-- the files that the range has met: what is seen is what is kept -/
def turnF (left : List UInt8 → Bool) (fs : List Fe) : List Fe := fs.map fun e => if left (kOf e.nm) then e else { e with seen := e.kept }
theorem turnF_step {fs : List Fe} (hn : Names fs) {left : List UInt8 → Bool} {e : Fe} (he : e ∈ fs) :
    putF (turnF left fs) { e with seen := e.kept } = turnF (fun z => left z && !(z == kOf e.nm)) fs := by
  induction fs with
  | nil => simp at he
  | cons y r ih =>
    obtain ⟨h1, h2⟩ := List.pairwise_cons.1 hn
    have hnm : kOf (if left (kOf y.nm) then y else { y with seen := y.kept }).nm = kOf y.nm := by split <;> rfl
    rcases List.mem_cons.1 he with rfl | he'
    · simp only [turnF, List.map_cons, putF]
      rw [if_pos (by split <;> rfl)]
      have : (left (kOf e.nm) && !(kOf e.nm == kOf e.nm)) = false := by simp
      simp only [this, Bool.false_eq_true, if_false]
      congr 1
      apply List.map_congr_left
      intro z hz
      have h3 := h1 z hz
      have : (kOf z.nm == kOf e.nm) = false := by simpa using fun q => h3 q.symm
      simp only [this, Bool.not_false, Bool.and_true]
    · have h3 := h1 e he'
      simp only [turnF, List.map_cons, putF]
      rw [if_neg (by rw [hnm]; exact h3)]
      have : (kOf y.nm == kOf e.nm) = false := by simpa using h3
      simp only [this, Bool.not_false, Bool.and_true]
      congr 1
      exact ih h2 he'
theorem turnF_all (fs : List Fe) : turnF (fun _ => true) fs = fs := by unfold turnF; simp
theorem turnF_none {left : List UInt8 → Bool} {fs : List Fe} (h : ∀ k, left k = false) : turnF left fs = fs.map fun e => { e with seen := e.kept } := by unfold turnF; simp [h]
theorem turnF_same {l l' : List UInt8 → Bool} {fs : List Fe} (h : ∀ e ∈ fs, l (kOf e.nm) = l' (kOf e.nm)) : turnF l fs = turnF l' fs := by
  unfold turnF
  apply List.map_congr_left
  intro e he
  rw [h e he]
theorem seenOf_kept (fs : List Fe) : seenOf (fs.map fun e => { e with seen := e.kept }) = keptOf fs ∧ keptOf (fs.map fun e => { e with seen := e.kept }) = keptOf fs ∧ allSum (fs.map fun e => { e with seen := e.kept }) = allKept fs ∧ allKept (fs.map fun e => { e with seen := e.kept }) = allKept fs := by
  refine ⟨?_, ?_, ?_, ?_⟩
  · funext s
    induction fs with
    | nil => rfl
    | cons y r ih =>
      rw [List.map_cons, seenOf_cons, keptOf_cons, ih]
  · funext s
    induction fs with
    | nil => rfl
    | cons y r ih =>
      rw [List.map_cons, keptOf_cons, keptOf_cons, ih]
  · unfold allSum allKept
    rw [List.map_map]
    rfl
  · unfold allKept
    rw [List.map_map]
    rfl
/-- the disk's cells stored anew, without changes -/
theorem Dk.reset {n0 : Nat} {w w' : World} {x : Dd} (h : Dk n0 w x) (k : Kp (OnB x.db) w w') (starts : Int)
    (hb : Blk w' x.db 121 #[.map (some x.mb), .slice none 0 0, .int .i64 x.room, .int .i64 0, .int .i64 0, .bool false, .int .i64 starts]) :
    Dk n0 w' { x with pv := .slice none 0 0, pd := [], steps := 0, crash := 0, down := false, starts := starts } := by
  obtain ⟨D, hD, hM⟩ := h.mp
  have hmb : ¬ OnB x.db x.mb := by
    intro q
    obtain ⟨es, cl, hm, _⟩ := hD
    have := h.blk
    unfold Blk at this
    rw [← show x.mb = x.db from q, hm] at this
    cases this
  exact { h with
    blk := hb
    mp := ⟨D, k.map hD hmb, hM⟩
    fls := fun e he => (h.fls e he).keep k (by obtain ⟨u, v, hb', _⟩ := (h.fls e he).blk; exact onb_cells h.blk hb' (by decide)) (fun g cs hc => onb_cells h.blk hc (by decide))
    pend := World.ownsRow_nil _ _ _ _
    s64 := by simp
    c0 := by simp }
end Go.Proofs.Ytegcbdfilkecpaa
