/- girolaw33: made, and ValuationEligible as a walk. -/
import Derived.Test.YtongoicadcmfaaaGreatDoorVSet
import Derived.Test.YtongoicadcmfaaaGreatDoorVElig
import Derived.Test.YtongoicadcmfaaaGreatDoorVRVal
import Derived.Lib.QuietBelow
set_option linter.unusedSimpArgs false
set_option linter.unusedVariables false
namespace Go.Proofs.YtongoicadcmfaaaGreatDoor.V
open Go.RowKit Go.Sort

theorem foldL_keys (xs : List E) (hok : ∀ x ∈ xs, OkE x) (i : Nat) : ∀ e ∈ foldL (xs.take i), e.key.size ≤ maxLen := by
  induction i with
  | zero => intro e he; exact absurd he (by simp [foldL])
  | succ i ih =>
    rcases Nat.lt_or_ge i xs.length with h | h
    · rw [foldL_next xs i h]
      intro e he
      unfold stepL at he
      split at he
      · unfold setL at he
        rw [List.mem_append, List.mem_singleton] at he
        rcases he with he | he
        · exact ih e (List.mem_filter.1 he).1
        · rw [he]; exact (clean_ok (hok _ (List.getElem_mem h))).key
      · exact ih e he
    · have : xs.take (i + 1) = xs.take i := by rw [List.take_of_length_le (by omega), List.take_of_length_le h]
      rw [this]; exact ih

/-- What made hands out where the day is one. -/
structure MadeV (W w' : World) (L : List E) (d : Int) (vb tb m0 m1 m2 m3 : Nat) (A : Option Addr) (c : Nat) : Prop where
  val : Val w' vb tb m0 m1 m2 m3 30 L d
  sl : SlE w' A L
  hl : L.length ≤ c
  hc : c ≤ 9223372036854775807
  inv : Inv L
  good : Good L
  len : L.length ≤ 30
  bl : Below W.heap.size W w'

set_option maxRecDepth 20000 in
set_option maxHeartbeats 4000000 in
theorem made8_t (A : Option Addr) (xs : List E) (c : Nat) (d : Int) (hd : dayB d = true) (hc1 : xs.length ≤ c) (hc2 : c ≤ 9223372036854775807) (hok : ∀ x ∈ xs, OkE x) (w : World) (h : SlE w A xs) :
    Calls Tryz.prog 8 #[.slice A xs.length c, .int .i64 d] w fun r w' => ∃ vb tb m0 m1 m2 m3 A5 c5, r = .returned (.tuple #[.pointer (some ⟨vb, 0, none⟩), .slice A5 (foldL (xs.take 30)).length c5, .bool true]) ∧ MadeV w w' (foldL (xs.take 30)) d vb tb m0 m1 m2 m3 A5 c5 := by
  have hm := made23 A xs c hc1 hc2 hok w h
  generalize foldL (xs.take 30) = L at *
  have HM := Lib.hid hm
  have hdy := fun w => day25 d w
  rw [hd] at hdy
  have HDY := Lib.hid hdy
  clear hm hdy
  go_enter Tryz.func8, Tryz.ntmps8
  go_wp2_with (first
    | (go_at_call 23; refine HM.out.mono ?_; rintro r w1 ⟨tb, m0, m1, m2, m3, v5, rfl, -, -, -, -, M⟩; obtain ⟨A5, c5, rfl, e1, e2, e3⟩ := M.val; have MH := Lib.hid M; clear M)
    | (go_at_call 21; refine (new21_t tb m0 m1 m2 m3 30 L d hd _ MH.out.tab).mono ?_; rintro r w2 ⟨⟨vb, tb', n0, n1, n2, n3, rfl, V⟩, hb2⟩)
    | (go_at_call 25; refine (HDY.out _).mono ?_; rintro r w3 ⟨rfl, rfl⟩)
    | (go_at_call 22; refine (day22 vb tb' n0 n1 n2 n3 30 L d _ V).mono ?_; rintro r w4 ⟨rfl, rfl⟩))
  go_ret3
  exact ⟨vb, tb', n0, n1, n2, n3, A5, c5, rfl, V, e3.call hb2, e1, e2, MH.out.inv, MH.out.good, MH.out.len, bl_then MH.out.bl hb2⟩

set_option maxRecDepth 20000 in
set_option maxHeartbeats 4000000 in
theorem made8_f (A : Option Addr) (xs : List E) (c : Nat) (d : Int) (hd : dayB d = false) (hc1 : xs.length ≤ c) (hc2 : c ≤ 9223372036854775807) (hok : ∀ x ∈ xs, OkE x) (w : World) (h : SlE w A xs) :
    Calls Tryz.prog 8 #[.slice A xs.length c, .int .i64 d] w fun r w' => (∃ v5, r = .returned (.tuple #[.pointer none, v5, .bool true])) ∧ Below w.heap.size w w' := by
  have hm := made23 A xs c hc1 hc2 hok w h
  generalize foldL (xs.take 30) = L at *
  have HM := Lib.hid hm
  have hdy := fun w => day25 d w
  rw [hd] at hdy
  have HDY := Lib.hid hdy
  clear hm hdy
  go_enter Tryz.func8, Tryz.ntmps8
  go_wp2_with (first
    | (go_at_call 23; refine HM.out.mono ?_; rintro r w1 ⟨tb, m0, m1, m2, m3, v5, rfl, -, -, -, -, M⟩; obtain ⟨A5, c5, rfl, e1, e2, e3⟩ := M.val; have MH := Lib.hid M; clear M)
    | (go_at_call 21; refine (new21_f tb d hd _).mono ?_; rintro r w2 ⟨rfl, rfl⟩)
    | (go_at_call 25; refine (HDY.out _).mono ?_; rintro r w3 ⟨rfl, rfl⟩))
  go_ret3
  exact ⟨⟨_, rfl⟩, MH.out.bl⟩

set_option maxRecDepth 20000 in
set_option maxHeartbeats 16000000 in
theorem law3 (A : Option Addr) (xs : List E) (c : Nat) (d : Int) (mem isin : ByteArray) (hc1 : xs.length ≤ c) (hc2 : c ≤ 9223372036854775807) (hok : ∀ x ∈ xs, OkE x) (hkm : mem.size ≤ maxLen) (hk : isin.size ≤ maxLen) (w : World) (h : SlE w A xs) :
    Calls Tryz.prog 3 #[.slice A xs.length c, .int .i64 d, .string mem, .string isin] w fun r w' => r = .returned (.bool true) ∧ Below w.heap.size w w' := by
  have hkn := fun w => known9 w
  have HKN := Lib.hid hkn
  clear hkn
  cases hd : dayB d
  · have hm := made8_f A xs c d hd hc1 hc2 hok w h
    have HM := Lib.hid hm
    clear hm
    go_enter Tryz.func3, Tryz.ntmps3
    go_wp2_with (first
      | (go_at_call 8; refine HM.out.mono ?_; rintro r w1 ⟨⟨v5, rfl⟩, hb1⟩)
      | (go_at_call 9; refine (HKN.out _).mono ?_; rintro r w2 ⟨rfl, hb2⟩))
    go_ret
    exact ⟨rfl, bl_then hb1 hb2⟩
  · have hm := made8_t A xs c d hd hc1 hc2 hok w h
    have hkeys := foldL_keys xs hok 30
    generalize foldL (xs.take 30) = L at *
    have HM := Lib.hid hm
    have HKEYS := Lib.hid hkeys
    clear hm hkeys h hok hc1 hc2
    go_enter Tryz.func3, Tryz.ntmps3
    go_wp2_with (go_at_call 8; refine HM.out.mono ?_; rintro r w1 ⟨vb, tb, m0, m1, m2, m3, A5, c5, rfl, M⟩; have MH := Lib.hid M; clear M)
    have he10 := fun (mem isin : ByteArray) (h1 : mem.size ≤ maxLen) (h2 : isin.size ≤ maxLen) (W : World) (hb : Below w1.heap.size w1 W) => elig10 vb tb m0 m1 m2 m3 30 L d mem isin W (MH.out.val.call hb) MH.out.inv MH.out.good h1 h2
    have he11 := fun (mem isin : ByteArray) (W : World) (hb : Below w1.heap.size w1 W) => eligible11 A5 L c5 d mem isin MH.out.good MH.out.hl MH.out.hc W (SlE.call MH.out.sl hb)
    have HE10 := Lib.hid he10
    have HE11 := Lib.hid he11
    have hlen := MH.out.len
    clear he10 he11
    go_loopw [12] (fun v12 wr => ∃ i : Nat, i ≤ L.length ∧ v12 = .int .i64 i ∧ Below w1.heap.size w1 wr) (fun v12 _ => L.length - (intOf v12).toNat)
    case atStart => exact ⟨0, Nat.zero_le _, rfl, Below.refl _ _⟩
    case round =>
      obtain ⟨i, hi, rfl, hbr⟩ := hrel
      by_cases hlt : i < L.length
      · go_wp2_with fail
        go_loopw [13] (fun v13 wk => ∃ k : Nat, k ≤ L.length ∧ v13 = .int .i64 k ∧ Below w1.heap.size w1 wk) (fun v13 _ => L.length - (intOf v13).toNat)
        case atStart => exact ⟨0, Nat.zero_le _, rfl, hbr⟩
        case round =>
          obtain ⟨k, hk2, rfl, hbk⟩ := hrel
          by_cases hlk : k < L.length
          · have hsl := SlE.call MH.out.sl hbk
            obtain ⟨ad, rfl, hadb, c0, -, c2, -⟩ := hsl.get hlt
            obtain ⟨ad', e1, -, f0, -, f2, -⟩ := hsl.get hlk
            injection e1 with e1
            subst e1
            have hx := HKEYS.out L[i] (List.getElem_mem hlt)
            have hy := HKEYS.out L[k] (List.getElem_mem hlk)
            generalize L[i] = x at *
            generalize L[k] = y at *
            have a10 := HE10.out x.key y.key hx hy
            have a11 := HE11.out x.key y.key
            generalize elig L d x.key y.key = er at *
            have hne : (er != er) = false := by simp [bne]
            have k0 := cell_regrown c0
            have k2 := cell_regrown c2
            have k3 := cell_regrown f0
            have k4 := cell_regrown f2
            have A10 := Lib.hid a10
            have A11 := Lib.hid a11
            clear a10 a11 hsl hadb
            have cL10 : ∀ dd os, Calls Tryz.prog 10 #[.pointer (some ⟨vb, 0, none⟩), .string x.key, .string y.key] (grow (redrawn wr dd) os) fun e w'' => e = .returned (.int .i64 er) ∧ ∃ p : Regrown, w'' = grow (redrawn wr p.d) p.os := fun dd os => Calls.regrown_of (A10.out _ (bl_then hbk (below_regrown wr dd os)))
            have cL11 : ∀ dd os, Calls Tryz.prog 11 #[.slice (some ad) L.length c5, .int .i64 d, .string x.key, .string y.key] (grow (redrawn wr dd) os) fun e w'' => e = .returned (.int .i64 er) ∧ ∃ p : Regrown, w'' = grow (redrawn wr p.d) p.os := fun dd os => Calls.regrown_of (A11.out _ (bl_then hbk (below_regrown wr dd os)))
            have CL10 := Lib.hid cL10
            have CL11 := Lib.hid cL11
            clear cL10 cL11
            cases t1 : (x.kind == 0) <;> cases t2 : (y.kind == 1)
            · go_wp2_with fail
              go_quiet (fail)
              go_wp2_with fail
              exact ⟨⟨k + 1, by omega, by go_num, bl_drewN hbk _⟩, by simp [intOf]; omega⟩
            · go_wp2_with fail
              go_quiet (fail)
              go_wp2_with fail
              exact ⟨⟨k + 1, by omega, by go_num, bl_drewN hbk _⟩, by simp [intOf]; omega⟩
            · go_wp2_with fail
              go_quiet (fail)
              go_wp2_with fail
              exact ⟨⟨k + 1, by omega, by go_num, bl_drewN hbk _⟩, by simp [intOf]; omega⟩
            · skip
              go_wp2_with fail
              refine wp_region_quiet_below (by kernel_rfl) (by kernel_rfl) ?_
              repeat (quiet_step (first | (go_at_call 10; exact CL10.out _ _) | (go_at_call 11; exact CL11.out _ _)))
              refine wpQuiet_nil ?_
              intro _ hw'
              obtain ⟨⟨dq, osq⟩, hw''⟩ := hw'
              subst hw''
              have hb5 := bl_then hbk (below_regrown wr dq osq)
              go_wp2_with fail
              exact ⟨⟨k + 1, by omega, by go_num, hb5⟩, by simp [intOf]; omega⟩
          · go_wp2_with fail
            exact ⟨⟨i + 1, by omega, by go_num, hbk⟩, by simp [intOf]; omega⟩
      · have a10 := HE10.out mem isin hkm hk
        have a11 := HE11.out mem isin
        generalize elig L d mem isin = er at *
        have A10 := Lib.hid a10
        have A11 := Lib.hid a11
        clear a10 a11
        have hee : (er == er) = true := by simp
        go_wp2_with (first
          | (go_at_call 9; refine (HKN.out _).mono ?_; rintro r w2 ⟨rfl, hb2⟩; have hbr2 := bl_then hbr hb2)
          | (go_at_call 10; refine (A10.out _ hbr2).mono ?_; rintro r w3 ⟨rfl, hb3⟩; have hbr3 := bl_then hbr2 hb3)
          | (go_at_call 11; refine (A11.out _ hbr3).mono ?_; rintro r w4 ⟨rfl, hb4⟩; have hbr4 := bl_then hbr3 hb4))
        go_ret
        exact ⟨rfl, bl_then MH.out.bl hbr4⟩
end Go.Proofs.YtongoicadcmfaaaGreatDoor.V
