/-
  Byte strings: Equal, LeafBytes, and what strings of them say.
-/
import Derived.Test.YtjcmgpiapbeodaaDoorRoot
import Derived.Test.YtjcmgpiapbeodaaDoorReg
import Derived.Lib.ConvBytes
import Derived.Laws.BytesString
set_option linter.unusedSimpArgs false
set_option linter.unusedVariables false
namespace Go.Proofs.YtjcmgpiapbeodaaDoor.Sha
open Go.RowKit Go.Proofs.YtjcmgpiapbeodaaDoor.Mem Go.Proofs.YtjcmgpiapbeodaaDoorW.PrintWords Go.Proofs.YtjcmgpiapbeodaaDoorW.PrintLast Go.Proofs.YtjcmgpiapbeodaaDoor.Pl Go.Proofs.YtjcmgpiapbeodaaDoor.Wk
attribute [local go_sem ↓] Go.wp_at_zero Go.wp_at_succ wp_load_hash wp_store_hash wp_load_mid23 wp_load_mid25 wp_store_mid25 wp_build_hash
attribute [local go_sem] rowAt_drew rowOk_drew midOk_drew midAt_drew rowBlock rowCells rowOff midFree_drew
/-- bytes -/
def Byt (p : List Int) : Prop := ∀ b ∈ p, 0 ≤ b ∧ b < 256
theorem run_strOf {w : World} {b o : Nat} {p : List Int} (h : Reads w b o p) (c : Nat) : (convert 22 9 (.slice (some ⟨b, o, none⟩) p.length c)).run Tryd.prog w = .ok (.string (strOfNums p)) w :=
  run_convert_bytes_arg w 22 5 Tryd.underlying22 Tryd.underlying5 b o p.length c p rfl h.2 9 Tryd.underlying9
theorem strOf_nil : strOfNums [] = ByteArray.empty := rfl
theorem conv_src {w : World} {S : Nat → Prop} {A : Option Addr} {c : Nat} {p : List Int} (h : Src w S A c p) : (convert 22 9 (.slice A p.length c)).run Tryd.prog w = .ok (.string (strOfNums p)) w := by
  rcases h.2 with ⟨rfl, rfl, rfl⟩ | ⟨rfl, ad, rfl⟩ | ⟨b, o, rfl, hr, _⟩
  · rw [strOf_nil]
    exact run_convert_bytes_nil w 22 5 Tryd.underlying22 Tryd.underlying5 _ _ 9 Tryd.underlying9
  · rw [run_convert_bytes_string w 22 9 5 _ _ _ Tryd.underlying22 Tryd.underlying5 Tryd.underlying9]
    have h0 : (loadCells ad 0).run Tryd.prog w = .ok (([] : List Int).map (Value.int .u8)).toArray w := by
      have := run_loadCells_list (P := Tryd.prog) w ad [] (fun j v hj => by simp at hj)
      simpa using this
    exact run_bytesToString w _ 0 c [] h0
  · exact run_strOf hr c
theorem strOf_inj {p q : List Int} (hp : Byt p) (hq : Byt q) (h : strOfNums p = strOfNums q) : p = q := by
  have h1 := congrArg (fun s : ByteArray => s.data.toList) h
  simp only [strOfNums_data] at h1
  apply List.ext_getElem?
  intro i
  have h2 := congrArg (fun l : List UInt8 => (l[i]?).map UInt8.toNat) h1
  simp only [List.getElem?_map, Option.map_map] at h2
  cases ha : p[i]? with
  | none =>
    cases hb : q[i]? with
    | none => rfl
    | some b => rw [ha, hb] at h2; simp at h2
  | some a =>
    cases hb : q[i]? with
    | none => rw [ha, hb] at h2; simp at h2
    | some b =>
      rw [ha, hb] at h2
      have r1 := hp a (List.mem_of_getElem? ha)
      have r2 := hq b (List.mem_of_getElem? hb)
      simp only [Option.map_some, Function.comp_apply, Option.some.injEq, UInt8.toNat_ofNat'] at h2
      rw [Nat.mod_eq_of_lt (by omega), Nat.mod_eq_of_lt (by omega)] at h2
      congr 1
      omega
theorem strOf_iff {p q : List Int} (hp : Byt p) (hq : Byt q) : (strOfNums p = strOfNums q) = (p = q) := by
  apply propext
  exact ⟨strOf_inj hp hq, fun h => by rw [h]⟩
set_option maxHeartbeats 2000000 in
set_option maxRecDepth 100000 in
/-- Equal -/
theorem equal_calls (A B : Option Addr) (c d : Nat) (p q : List Int) (w : World) {S S' : Nat → Prop} (hX : Src w S A c p) (hY : Src w S' B d q) (hp : Byt p) (hq : Byt q) :
    Calls Tryd.prog 42 #[.slice A p.length c, .slice B q.length d] w fun e w' => e = .returned (.bool (decide (p = q))) ∧ w' = w := by
  have h1 := conv_src hX
  have h2 := conv_src hY
  have h3 := strOf_iff hp hq
  generalize strOfNums p = s at h1 h3
  generalize strOfNums q = t at h2 h3
  generalize p.length = n at h1 ⊢
  generalize q.length = m at h2 ⊢
  have HE : Kp ((s.toList == t.toList) = decide (p = q)) := ⟨by
    have e : (s.toList == t.toList) = decide (s = t) := by
      by_cases h : s = t
      · subst h; simp
      · rw [decide_eq_false h]
        simp only [ByteArray.toList_eq, beq_eq_false_iff_ne, ne_eq]
        exact fun e => h (ByteArray.ext (Array.toList_inj.1 e))
    rw [e]
    exact decide_eq_decide.2 (iff_of_eq h3)⟩
  clear h3 hX hY hp hq
  go_enter Tryd.func42, Tryd.ntmps42
  go_wp2_with (fail)
  go_ret
  exact ⟨by rw [HE.out]; rfl, rfl⟩
end Go.Proofs.YtjcmgpiapbeodaaDoor.Sha
