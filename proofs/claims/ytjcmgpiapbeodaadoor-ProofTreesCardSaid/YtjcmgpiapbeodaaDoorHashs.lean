/-
  A pair that CollideRecords makes collides. hashes (the law's list as the program's).
-/
import Derived.Test.YtjcmgpiapbeodaaDoorHides
import Derived.Test.YtjcmgpiapbeodaaDoorPartsW
import Derived.Test.YtjcmgpiapbeodaaDoorRoot
set_option linter.unusedSimpArgs false
set_option linter.unusedVariables false
namespace Go.Proofs.YtjcmgpiapbeodaaDoor.Sha
open Go.Proofs.YtjcmgpiapbeodaaDoor.Pf
theorem ofL_take {s : Nat} {x y : List Int} (hs : s ≤ 32) (h : ofL s x = ofL s y) : (hash false x).take s = (hash false y).take s := by
  rw [← cutL_iff s _ _ (hlen x) (hlen y) hs]
  exact h
theorem pair_coll {s : Nat} (hs : s ≤ 32) (w : List Pf.St) (pa pb : List (List Int)) (a b : List Int) (h3 : ∀ x ∈ pa, x.length = 32) (h4 : ∀ x ∈ pb, x.length = 32) (hla : w.length = pa.length) (hlb : w.length = pb.length) (hne : a ≠ b) {P1 P2 : List Int}
    (hp : IsPair (nodeL s) (0 :: a) (0 :: b) (nodes (.giv (leafL s a)) w pa) (nodes (.giv (leafL s b)) w pb) (P1, P2)) : collP s P1 P2 := by
  obtain ⟨h1, h2⟩ := pair_records (nodeL s) (fun l r => ofL_len _ _ hs) w pa pb (leafL s a) (leafL s b) (0 :: a) (0 :: b) (ofL_len _ _ hs) (ofL_len _ _ hs) h3 h4 hla hlb (fun h => hne (List.cons.inj h).2) hp
  refine ⟨h1, ?_⟩
  rcases h2 with ⟨he, hh⟩ | ⟨l, r, l', r', he, hh⟩
  · obtain ⟨e1, e2⟩ := Prod.mk.inj he
    rw [e1, e2]
    exact ofL_take hs hh
  · obtain ⟨e1, e2⟩ := Prod.mk.inj he
    rw [e1, e2]
    exact ofL_take hs hh
theorem ofL_byt (s : Nat) (p : List Int) : Byt (ofL s p) := fun b hb => by
  unfold ofL cutL at hb
  rcases List.mem_append.1 hb with h | h
  · exact hash_byt p b (List.mem_of_mem_take h)
  · rw [(List.mem_replicate.1 h).2]; omega
/-- every given hash is bytes -/
def NdByt : Nd → Prop
  | .giv h => Byt h
  | .join l r => NdByt l ∧ NdByt r
theorem NdByt.sum {s : Nat} : ∀ {n : Nd}, NdByt n → Byt (n.sum (nodeL s))
  | .giv _, h => h
  | .join _ _, _ => ofL_byt s _
theorem up_byt {n : Nd} {t : Pf.St} {h : List Int} (hn : NdByt n) (hh : Byt h) : NdByt (up n t h) := by
  unfold up
  split
  · exact ⟨hn, hh⟩
  · exact ⟨hh, hn⟩
theorem nodes_byt : ∀ (w : List Pf.St) (p : List (List Int)) (n : Nd), NdByt n → (∀ x ∈ p, Byt x) → ∀ m ∈ nodes n w p, NdByt m
  | [], _, n, hn, _, m, hm => by
    simp only [nodes, List.mem_singleton] at hm
    rw [hm]; exact hn
  | _ :: _, [], n, hn, _, m, hm => by
    simp only [nodes, List.mem_singleton] at hm
    rw [hm]; exact hn
  | t :: w, h :: p, n, hn, hp, m, hm => by
    simp only [nodes, List.mem_cons] at hm
    rcases hm with rfl | hm
    · exact hn
    · exact nodes_byt w p _ (up_byt hn (hp h (by simp))) (fun x hx => hp x (by simp [hx])) m hm
theorem byt_cons {k : Int} {l r : List Int} (hk : 0 ≤ k ∧ k < 256) (hl : Byt l) (hr : Byt r) : Byt (k :: (l ++ r)) := fun b hb => by
  rcases List.mem_cons.1 hb with rfl | hb
  · exact hk
  · rcases List.mem_append.1 hb with h | h
    · exact hl b h
    · exact hr b h
theorem pair_byt {s : Nat} (w : List Pf.St) (pa pb : List (List Int)) (a b : List Int) (ha : Byt a) (hb : Byt b) (h3 : ∀ x ∈ pa, Byt x) (h4 : ∀ x ∈ pb, Byt x) {P1 P2 : List Int}
    (hp : IsPair (nodeL s) (0 :: a) (0 :: b) (nodes (.giv (leafL s a)) w pa) (nodes (.giv (leafL s b)) w pb) (P1, P2)) : Byt P1 ∧ Byt P2 := by
  obtain ⟨j, x, y, hx, hy, _, _, h⟩ := hp
  rcases h with ⟨_, he⟩ | ⟨_, he⟩
  · obtain ⟨e1, e2⟩ := Prod.mk.inj he
    rw [e1, e2]
    exact ⟨by simpa using byt_cons (k := 0) (l := []) (by omega) (fun _ h => by cases h) ha, by simpa using byt_cons (k := 0) (l := []) (by omega) (fun _ h => by cases h) hb⟩
  · have nx := nodes_byt w pa (.giv (leafL s a)) (ofL_byt s _) h3 x (List.mem_of_getElem? hx)
    have ny := nodes_byt w pb (.giv (leafL s b)) (ofL_byt s _) h4 y (List.mem_of_getElem? hy)
    cases x with
    | giv _ => simp [parts] at he
    | join xl xr =>
    cases y with
    | giv _ => simp [parts] at he
    | join yl yr =>
    simp only [parts] at he
    split at he
    · cases he
    · obtain ⟨e1, e2⟩ := Prod.mk.inj (Option.some.inj he)
      rw [← e1, ← e2]
      exact ⟨byt_cons (by omega) nx.1.sum nx.2.sum, byt_cons (by omega) ny.1.sum ny.2.sum⟩
end Go.Proofs.YtjcmgpiapbeodaaDoor.Sha
namespace Go.Proofs.YtjcmgpiapbeodaaDoor.Sha
open Go.RowKit Go.Proofs.YtjcmgpiapbeodaaDoor.Mem Go.Proofs.YtjcmgpiapbeodaaDoorW.PrintWords
attribute [local go_sem ↓] Go.wp_at_zero Go.wp_at_succ wp_load_hash wp_store_hash wp_load_mid23 wp_load_mid25 wp_build_hash
attribute [local go_sem] rowAt_drew rowOk_drew midOk_drew midAt_drew rowBlock rowCells
set_option maxHeartbeats 2000000 in
set_option maxRecDepth 100000 in
/-- hashes: the law's list as a list of the program's, new memory -/
theorem hashes9_calls (A : Option Addr) (c : Nat) (L : List (List Int)) (w : World) (hX : HRow w (fun _ => False) A c L) (hb : L.length * 32 ≤ 140737488355328) :
    Calls Tryd.prog 18 #[.slice A L.length c] w fun e w' => ∃ v, e = .returned v ∧ HOwn w' w.heap.size v L ∧ Fr (fun _ => False) w w' := by
  have HX := Kp.mk hX
  have HB := Kp.mk hb
  obtain ⟨n, hn⟩ : ∃ n, n = L.length := ⟨_, rfl⟩
  rw [← hn]
  have HN := Kp.mk hn
  have hnl : n ≤ 4398046511104 := by omega
  clear hX hb hn
  go_enter Tryd.func18, Tryd.ntmps18
  go_wp2_with fail
  go_loopw [3, 4] (fun v a wr => ∃ i : Nat, a = .int .i64 i ∧ i ≤ n ∧ Kp (HOwn wr w.heap.size v (L.take i)) ∧ Kp (Fr (fun _ => False) w wr)) (fun _ a _ => n - (intOf a).toNat)
  case atStart => exact ⟨0, rfl, Nat.zero_le _, ⟨HOwn.nil _ _⟩, ⟨Fr.refl _ _⟩⟩
  case round =>
    obtain ⟨i, rfl, hi, HO, HF⟩ := hrel
    by_cases h : i < n
    · have HX1 := Kp.mk (HX.out.fr HF.out)
      obtain ⟨b, o, hA, _, _, _⟩ := HX1.out.at i (by rw [← HN.out]; exact h)
      subst hA
      obtain ⟨m1, m2⟩ := HX1.out.mid i (by rw [← HN.out]; exact h)
      have hx32 : (L[i]'(by rw [← HN.out]; exact h)).length = 32 := HX.out.1 _ (List.getElem_mem _)
      have HT := Kp.mk (show L.take (i + 1) = L.take i ++ [L[i]'(by rw [← HN.out]; exact h)] from List.take_succ_eq_append_getElem _)
      generalize L[i]'(by rw [← HN.out]; exact h) = x at m2 hx32 HT
      have hk := hashOk_bytes x hx32
      have HX32 := Kp.mk hx32
      clear hx32
      have HXn : Kp (HRow (wr.alloc (.cells (bytes x).toArray 29)) (fun _ => False) (some ⟨wr.heap.size, 0, none⟩) 1 [x]) := ⟨hrow_new wr x HX32.out⟩
      have HOa := Kp.mk (HO.out.keep ((Fr.refl (fun _ => False) wr).alloc (.cells (bytes x).toArray 29)) (fun _ _ h => h))
      go_wp2_with (at_builtin; refine wpList_appendH rfl _ _ rfl rfl w.heap.size u3 (L.take i) rfl HOa.out (some ⟨wr.heap.size, 0, none⟩) 1 1 [x] rfl rfl HXn.out (by have := HN.out; rw [List.length_take]; simp only [List.length_singleton]; omega) (by exact (HF.out.alloc (.cells (bytes x).toArray 29)).size) ?_; intro v5 w5 hown hgr hat; have HO5 := Kp.mk hown; have HG5 := Kp.mk hgr; clear hown hgr hat)
      refine ⟨⟨i + 1, rfl, by omega, ⟨by rw [HT.out]; exact HO5.out⟩, ⟨(HF.out.alloc (.cells (bytes x).toArray 29)).grown HG5.out (fun q hq h => absurd (HO.out.lt q h).2 (by omega))⟩⟩, ?_⟩
      simp only [intOf]
      omega
    · obtain rfl : i = n := by omega
      clear h
      go_wp2_with fail
      go_ret
      refine ⟨_, rfl, ?_, HF.out⟩
      have h := HO.out
      rw [List.take_of_length_le (by rw [← HN.out]; exact Nat.le_refl _)] at h
      exact h

end Go.Proofs.YtjcmgpiapbeodaaDoor.Sha
