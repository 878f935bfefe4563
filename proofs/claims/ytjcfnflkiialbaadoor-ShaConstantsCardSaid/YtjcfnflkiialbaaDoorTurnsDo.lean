/-
  What stands between two calls of ShaTurns: two digests, the book, the list of all; whose blocks are whose; and what each call makes of it. The calls of ShaTurns, each from what stands ahead of it to what stands behind it.
-/
import Derived.Test.YtjcfnflkiialbaaDoorKept
import Derived.Test.YtjcfnflkiialbaaDoorDo2
namespace Go.Proofs.YtjcfnflkiialbaaDoor.Sha
open Go.RowKit Go.Proofs.YtjcfnflkiialbaaDoor.Mem Go.Proofs.YtjcfnflkiialbaaDoorW.PrintWords
/-- The blocks of foot are there and bear the colour c. -/
def Live (w : World) (col : Nat → Nat) (c : Nat) (foot : Nat → Prop) : Prop := ∀ k, foot k → k < w.heap.size ∧ col k = c
/-- what is new since w bears the colour c -/
def recol (w : World) (col : Nat → Nat) (c : Nat) : Nat → Nat := fun k => if k < w.heap.size then col k else c
theorem recol_old {w : World} {col : Nat → Nat} {c k : Nat} (h : k < w.heap.size) : recol w col c k = col k := if_pos h
theorem recol_new {w : World} {col : Nat → Nat} {c k : Nat} (h : w.heap.size ≤ k) : recol w col c k = c := if_neg (by omega)
theorem Live.keep {w w' : World} {col : Nat → Nat} {d : Nat} {foot : Nat → Prop} (h : Live w col d foot) (hs : w.heap.size ≤ w'.heap.size) (c : Nat) : Live w' (recol w col c) d foot :=
  fun k hk => ⟨Nat.lt_of_lt_of_le (h k hk).1 hs, (recol_old (h k hk).1).trans (h k hk).2⟩
theorem Live.grow {w w' : World} {col : Nat → Nat} {c : Nat} {foot foot' : Nat → Prop} (h : Live w col c foot) (hs : w.heap.size ≤ w'.heap.size) (hf : ∀ k, foot' k → k < w'.heap.size ∧ (foot k ∨ w.heap.size ≤ k)) : Live w' (recol w col c) c foot' := fun k hk => by
  obtain ⟨h1, h2⟩ := hf k hk
  rcases h2 with h2 | h2
  · exact h.keep hs c k h2
  · exact ⟨h1, recol_new h2⟩
theorem Live.apart {w : World} {col : Nat → Nat} {c d : Nat} {foot foot' : Nat → Prop} (h : Live w col c foot) (h' : Live w col d foot') (hcd : c ≠ d) {k : Nat} (hk : foot k) : ¬ foot' k := fun hk' => hcd ((h k hk).2.symm.trans (h' k hk').2)
theorem Live.sub {w : World} {col : Nat → Nat} {c : Nat} {foot foot' : Nat → Prop} (h : Live w col c foot) (hs : ∀ k, foot' k → foot k) : Live w col c foot' := fun k hk => h k (hs k hk)
theorem dg_fr {w w1 : World} {b : Nat} {rv : Value} {s : St} {S : Nat → Prop} (h : Dg w b rv s) (hf : Fr S w w1) (hs : ∀ k, dfoot b rv k → ¬ S k) : Dg w1 b rv s := ⟨h.blk.fr hf (hs b (.inl rfl)), own_keep h.rest hf (fun k hk => hs k (.inr hk)), h.low⟩
theorem dg_foot {w : World} {b : Nat} {rv : Value} {s : St} (h : Dg w b rv s) : ∀ k, dfoot b rv k → k < w.heap.size := fun k hk => by
  rcases hk with rfl | hk
  · exact h.blk.lt
  · exact (own_lt h.rest hk).1
structure TurnsAt (w0 w : World) (ba bb bk : Nat) (rva rvb LV MV va : Value) (T : Nat → Prop) (sa sb : St) (p : List Int) (n : Nat) : Prop where
  da : Dg w ba rva sa
  db : Dg w bb rvb sb
  bkb : Blk w bk 34 [LV, MV]
  book : BookIn w T LV MV n
  all : w.ownsRow low 5 1 va p.length (bytes p)
  col : ∃ col, (∀ k, k < w0.heap.size → col k = 0) ∧ Live w col 1 (dfoot ba rva) ∧ Live w col 2 (dfoot bb rvb) ∧ Live w col 3 (fun k => k = bk ∨ T k) ∧ Live w col 4 (fun k => va.ownBlock = some k)
  fr : Fr (fun _ => False) w0 w
section
variable {w0 w w' : World} {ba bb bk : Nat} {rva rvb LV MV va : Value} {T : Nat → Prop} {sa sb : St} {p : List Int} {n : Nat}
/-- what writes into blocks of one colour alone leaves what was there at first -/
theorem fr_col {S : Nat → Prop} {col : Nat → Nat} {c : Nat} (hf : Fr (fun _ => False) w0 w) (h0 : ∀ k, k < w0.heap.size → col k = 0) (hc : c ≠ 0) (h : Fr S w w') (hS : Live w col c S) : Fr (fun _ => False) w0 w' :=
  hf.trans h (fun k hk hs => hc ((hS k hs).2.symm.trans (h0 k hk)))
theorem recol_zero {col : Nat → Nat} {c : Nat} (hf : Fr (fun _ => False) w0 w) (h0 : ∀ k, k < w0.heap.size → col k = 0) : ∀ k, k < w0.heap.size → recol w col c k = 0 := fun k hk => (recol_old (Nat.lt_of_lt_of_le hk hf.size)).trans (h0 k hk)
theorem TurnsAt.writeA (h : TurnsAt w0 w ba bb bk rva rvb LV MV va T sa sb p n) {rv' : Value} {s' : St} (hD : Dg w' ba rv' s') (hh : Heir w rv' rva) (hf : Fr (dfoot ba rva) w w') : TurnsAt w0 w' ba bb bk rv' rvb LV MV va T s' sb p n := by
  obtain ⟨col, h0, h1, h2, h3, h4⟩ := h.col
  refine ⟨hD, dg_fr h.db hf (fun k hk hk' => h2.apart h1 (by decide) hk hk'), h.bkb.fr hf (h3.apart h1 (by decide) (.inl rfl)), h.book.fr hf (fun k hk => h3.apart h1 (by decide) (.inr hk)), own_keep h.all hf (fun k hk => h4.apart h1 (by decide) hk), ?_, fr_col h.fr h0 (by decide) hf h1⟩
  refine ⟨recol w col 1, recol_zero h.fr h0, h1.grow hf.size (fun k hk => ⟨dg_foot hD k hk, ?_⟩), h2.keep hf.size 1, h3.keep hf.size 1, h4.keep hf.size 1⟩
  rcases hk with rfl | hk
  · exact .inl (.inl rfl)
  · rcases Nat.lt_or_ge k w.heap.size with hl | hl
    · exact .inl (.inr (hh.not_old hk hl))
    · exact .inr hl
theorem TurnsAt.writeB (h : TurnsAt w0 w ba bb bk rva rvb LV MV va T sa sb p n) {rv' : Value} {s' : St} (hD : Dg w' bb rv' s') (hh : Heir w rv' rvb) (hf : Fr (dfoot bb rvb) w w') : TurnsAt w0 w' ba bb bk rva rv' LV MV va T sa s' p n := by
  obtain ⟨col, h0, h1, h2, h3, h4⟩ := h.col
  refine ⟨dg_fr h.da hf (fun k hk hk' => h1.apart h2 (by decide) hk hk'), hD, h.bkb.fr hf (h3.apart h2 (by decide) (.inl rfl)), h.book.fr hf (fun k hk => h3.apart h2 (by decide) (.inr hk)), own_keep h.all hf (fun k hk => h4.apart h2 (by decide) hk), ?_, fr_col h.fr h0 (by decide) hf h2⟩
  refine ⟨recol w col 2, recol_zero h.fr h0, h1.keep hf.size 2, h2.grow hf.size (fun k hk => ⟨dg_foot hD k hk, ?_⟩), h3.keep hf.size 2, h4.keep hf.size 2⟩
  rcases hk with rfl | hk
  · exact .inl (.inl rfl)
  · rcases Nat.lt_or_ge k w.heap.size with hl | hl
    · exact .inl (.inr (hh.not_old hk hl))
    · exact .inr hl
/-- a call that makes memory alone -/
theorem TurnsAt.below (h : TurnsAt w0 w ba bb bk rva rvb LV MV va T sa sb p n) (hf : Fr (fun _ => False) w w') : TurnsAt w0 w' ba bb bk rva rvb LV MV va T sa sb p n := by
  obtain ⟨col, h0, h1, h2, h3, h4⟩ := h.col
  exact ⟨dg_fr h.da hf (fun _ _ h => h), dg_fr h.db hf (fun _ _ h => h), h.bkb.fr hf (fun h => h), h.book.fr hf (fun _ _ h => h), own_keep h.all hf (fun _ _ h => h),
    ⟨recol w col 0, recol_zero h.fr h0, h1.keep hf.size 0, h2.keep hf.size 0, h3.keep hf.size 0, h4.keep hf.size 0⟩, h.fr.trans hf (fun _ _ h => h)⟩
/-- a list whose blocks are new since an earlier world joins the book -/
theorem TurnsAt.hold {v : Value} {wn : World} (hn : TurnsAt w0 wn ba bb bk rva rvb LV MV va T sa sb p n) (hfn : Fr (fun _ => False) wn w) (hv : ∀ k, v.ownBlock = some k → wn.heap.size ≤ k ∧ k < w.heap.size) {LV' MV' : Value} {T' : Nat → Prop} {m : Nat}
    (hb : Blk w' bk 34 [LV', MV']) (hB : BookIn w' T' LV' MV' m) (hT : ∀ k, T' k → T k ∨ v.ownBlock = some k ∨ w.heap.size ≤ k) (hf : Fr (fun k => k = bk ∨ T k ∨ v.ownBlock = some k) w w') :
    TurnsAt w0 w' ba bb bk rva rvb LV' MV' va T' sa sb p m := by
  obtain ⟨col, h0, h1, h2, h3, h4⟩ := hn.col
  have hwn := hn.fr.size
  have g : ∀ k, (k = bk ∨ T k ∨ v.ownBlock = some k) → k < wn.heap.size → k = bk ∨ T k := fun k hk hl => by
    rcases hk with hk | hk | hk
    · exact .inl hk
    · exact .inr hk
    · have := (hv k hk).1; omega
  have hff : Fr (fun k => k = bk ∨ T k) wn w' := (hfn.mono (fun _ _ h => h.elim)).trans hf (fun k hk h => g k h hk)
  refine ⟨dg_fr hn.da hff (fun k hk => h1.apart h3 (by decide) hk), dg_fr hn.db hff (fun k hk => h2.apart h3 (by decide) hk), hb, hB, own_keep hn.all hff (fun k hk => h4.apart h3 (by decide) hk), ?_, fr_col hn.fr h0 (by decide) hff h3⟩
  refine ⟨recol wn col 3, recol_zero hn.fr h0, h1.keep hff.size 3, h2.keep hff.size 3, h3.grow hff.size (fun k hk => ?_), h4.keep hff.size 3⟩
  rcases hk with rfl | hk
  · exact ⟨hb.lt, .inl (.inl rfl)⟩
  · refine ⟨(hB.lt k hk).2, ?_⟩
    rcases hT k hk with h | h | h
    · exact .inl (.inr h)
    · exact .inr (hv k h).1
    · exact .inr (Nat.le_trans hfn.size h)
theorem TurnsAt.append (h : TurnsAt w0 w ba bb bk rva rvb LV MV va T sa sb p n) {va' : Value} {q : List Int} (ho : w'.ownsRow low 5 1 va' q.length (bytes q)) (hg : w.grownBy w' va.ownBlock) (ha : va'.ownBlock = va.ownBlock ∨ va'.ownBlock = some w.heap.size) :
    TurnsAt w0 w' ba bb bk rva rvb LV MV va' T sa sb q n := by
  obtain ⟨col, h0, h1, h2, h3, h4⟩ := h.col
  have hf : Fr (fun k => va.ownBlock = some k) w w' := (Fr.refl _ w).grown hg (fun _ _ h => h)
  refine ⟨dg_fr h.da hf (fun k hk => h1.apart h4 (by decide) hk), dg_fr h.db hf (fun k hk => h2.apart h4 (by decide) hk), h.bkb.fr hf (h3.apart h4 (by decide) (.inl rfl)), h.book.fr hf (fun k hk => h3.apart h4 (by decide) (.inr hk)), ho, ?_, fr_col h.fr h0 (by decide) hf h4⟩
  refine ⟨recol w col 4, recol_zero h.fr h0, h1.keep hf.size 4, h2.keep hf.size 4, h3.keep hf.size 4, h4.grow hf.size (fun k hk => ⟨(own_lt ho hk).1, ?_⟩)⟩
  rcases ha with ha | ha
  · exact .inl (ha.symm.trans hk)
  · obtain rfl := Option.some.inj (ha.symm.trans hk)
    exact .inr (Nat.le_refl _)
theorem TurnsAt.high (h : TurnsAt w0 w ba bb bk rva rvb LV MV va T sa sb p n) : w0.heap.size ≤ bk ∧ (∀ k, T k → w0.heap.size ≤ k) ∧ ∀ k, k < w0.heap.size → ¬ dfoot ba rva k ∧ ¬ dfoot bb rvb k := by
  obtain ⟨col, h0, h1, h2, h3, _⟩ := h.col
  have g : ∀ k, (k = bk ∨ T k) → w0.heap.size ≤ k := fun k hk => by
    rcases Nat.lt_or_ge k w0.heap.size with hl | hl
    · have a := h0 k hl
      have b := (h3 k hk).2
      omega
    · exact hl
  exact ⟨g bk (.inl rfl), fun k hk => g k (.inr hk), fun k hk => ⟨fun h => by have a := h0 k hk; have b := (h1 k h).2; omega, fun h => by have a := h0 k hk; have b := (h2 k h).2; omega⟩⟩
end
end Go.Proofs.YtjcfnflkiialbaaDoor.Sha
namespace Go.Proofs.YtjcfnflkiialbaaDoor.Sha
open Go.RowKit Go.Proofs.YtjcfnflkiialbaaDoor.Mem Go.Proofs.YtjcfnflkiialbaaDoorW.PrintWords
/-- Sum, as a list of its own. -/
theorem sumL_calls (B : Bool) (p : List Int) (b : Nat) (rv : Value) (w : World) (hL : Laid w) (hD : Dg w b rv ((St.new B).write p)) :
    Calls Tryd.prog 31 #[.pointer (some ⟨b, 0, none⟩)] w fun e w' => ∃ A c, e = .returned (.slice A (out B) c) ∧ OwnL w' 5 1 (.slice A (out B) c) (out B) (bytes (hash B p)) ∧
      (∀ k, (Value.slice A (out B) c).ownBlock = some k → w.heap.size ≤ k ∧ k < w'.heap.size) ∧ Src w' (fun _ => False) A c (hash B p) ∧ Below w.heap.size w w' := by
  refine (sum_calls _ (write_ok _ (new_ok B) p) b rv w hL hD).mono ?_
  rintro e w' ⟨v, rfl, hO, hB⟩
  have hl : ((St.new B).write p).sum.length = out B := hash_length B p
  unfold Own at hO
  rw [hl] at hO
  obtain ⟨A, c, rfl, hc⟩ := own_shape hO
  have hO' : w'.ownsRow w.heap.size 5 1 (.slice A (out B) c) (hash B p).length (bytes (hash B p)) := by rw [hash_length]; exact hO
  refine ⟨A, c, rfl, OwnL.of_own hO, fun k hk => ?_, ?_, hB⟩
  · have := own_lt hO hk
    exact ⟨this.2, this.1⟩
  · obtain ⟨A', c', he, hs⟩ := Src.of_own hO' (fun _ => False) (fun _ _ h => h)
    simp only [Value.slice.injEq] at he
    obtain ⟨rfl, _, rfl⟩ := he
    exact hs
/-- the law's own sum, as a list that is read -/
theorem listL_calls (B : Bool) (A : Option Addr) (cp : Nat) (p : List Int) (w : World) (hL : Laid w) (hX : Src w (fun _ => False) A cp p) (hmax : p.length ≤ maxCount) :
    Calls Tryd.prog 32 #[.int .i64 (kind B : Nat), .slice A p.length cp] w fun e w' => ∃ A' c, e = .returned (.slice A' (out B) c) ∧ Src w' (fun _ => False) A' c (hash B p) ∧ Below w.heap.size w w' := by
  refine (list_calls B A cp p w hL hX hmax).mono ?_
  rintro e w' ⟨v, rfl, hO, hB⟩
  obtain ⟨A', c', rfl, hs⟩ := Src.of_own hO (fun _ => False) (fun _ _ h => h)
  rw [hash_length]
  exact ⟨A', c', rfl, hs, hB⟩
theorem same_hash (w : World) (B : Bool) (p : List Int) {S1 S2 : Nat → Prop} {A1 A2 : Option Addr} {c1 c2 : Nat} (h1 : Src w S1 A1 c1 (hash B p)) (h2 : Src w S2 A2 c2 (hash B p)) :
    Calls Tryd.prog 17 #[.slice A1 (out B) c1, .slice A2 (out B) c2] w fun e w' => e = .returned (.bool true) ∧ Below w.heap.size w w' := by
  have hl := hash_small B p
  have h := same_src w h1 h2 (by omega) (by omega)
  rw [hash_length] at h
  refine h.mono ?_
  rintro e w' ⟨rfl, hB⟩
  exact ⟨by rw [decide_eq_true rfl], hB⟩
theorem save_len (s : St) (hs : s.Ok) : s.save.length ≤ 201 := by
  have h := rest_lt s hs
  have h1 := words_length s.B s.c
  have h2 := be8_length s.cnt
  have e : s.save.length = 9 + (words s.B s.c).length + s.rest.length := by unfold St.save; simp only [List.length_append, List.length_cons, h2]
  rw [e, h1]
  revert h
  cases s.B
  · show _ < 64 → 9 + 32 + _ ≤ _; omega
  · show _ < 128 → 9 + 64 + _ ≤ _; omega
/-- Save, as a list of its own. -/
theorem saveL_calls (s : St) (hs : s.Ok) (b : Nat) (rv : Value) (w : World) (hD : Dg w b rv s) :
    Calls Tryd.prog 35 #[.pointer (some ⟨b, 0, none⟩)] w fun e w' => ∃ g n, e = .returned (.slice (some ⟨g, 0, none⟩) n n) ∧ n ≤ 201 ∧ n = s.save.length ∧ OwnL w' 5 1 (.slice (some ⟨g, 0, none⟩) n n) n (bytes s.save) ∧
      (∀ k, (Value.slice (some ⟨g, 0, none⟩) n n).ownBlock = some k → w.heap.size ≤ k ∧ k < w'.heap.size) ∧ Src w' (fun _ => False) (some ⟨g, 0, none⟩) n s.save ∧ Below w.heap.size w w' := by
  refine (save_calls s hs b rv w hD).mono ?_
  rintro e w' ⟨g, n, rfl, rfl, hR, ⟨cur, h1, h2, h3, h4⟩, hg, hB⟩
  refine ⟨g, _, rfl, save_len s hs, rfl, ⟨by simp [bytes], .inr ⟨g, _, cur, rfl, h1, Nat.le_refl _, h2, by omega, by simpa using h4⟩⟩, fun k hk => ?_, ⟨Nat.le_refl _, .inr (.inr ⟨g, 0, rfl, hR, fun h => h⟩)⟩, hB⟩
  obtain rfl : g = k := Option.some.inj hk
  exact ⟨hg, hR.1⟩
section
variable {w0 w : World} {ba bb bk : Nat} {rva rvb LV MV va : Value} {T : Nat → Prop} {sa sb : St} {p : List Int} {n : Nat}
theorem hold_turns {wn : World} (hn : TurnsAt w0 wn ba bb bk rva rvb LV MV va T sa sb p n) (hlow : low ≤ w0.heap.size) (hfn : Fr (fun _ => False) wn w) (hnn : n ≤ 4000000000000) (A : Option Addr) (len cap : Nat) (xs : List Value) (hv : OwnL w 5 1 (.slice A len cap) len xs) (hl : len ≤ 140737488355327)
    (hnew : ∀ k, (Value.slice A len cap).ownBlock = some k → wn.heap.size ≤ k ∧ k < w.heap.size) :
    Calls Tryd.prog 18 #[.pointer (some ⟨bk, 0, none⟩), .slice A len cap] w fun e w' => ∃ r LV' MV' T', e = .returned r ∧ TurnsAt w0 w' ba bb bk rva rvb LV' MV' va T' sa sb p (n + 1) := by
  have h := hn.below hfn
  have hh := hn.high
  refine (hold_calls w bk 0 n _ [LV, MV] LV MV T (by decide) h.bkb (Nat.le_trans hlow h.high.1) rfl rfl h.book hnn A len cap xs hv hl (fun k hk => ⟨fun ht => ?_, Nat.le_trans hlow (Nat.le_trans hn.fr.size (hnew k hk).1)⟩)).mono ?_
  · have := (hn.book.lt k ht).2
    have := (hnew k hk).1
    omega
  · rintro e w' ⟨r, LV', MV', T', rfl, h1, h2, h3, h4⟩
    exact ⟨r, LV', MV', T', rfl, hn.hold hfn hnew h1 h2 h3 h4⟩
theorem kept_turns (h : TurnsAt w0 w ba bb bk rva rvb LV MV va T sa sb p n) (hnn : n ≤ 4000000000000) :
    Calls Tryd.prog 19 #[.pointer (some ⟨bk, 0, none⟩)] w fun e w' => e = .returned (.bool true) ∧ TurnsAt w0 w' ba bb bk rva rvb LV MV va T sa sb p n := by
  refine (kept_calls w bk 0 n _ [LV, MV] LV MV T h.bkb rfl rfl h.book hnn).mono ?_
  rintro e w' ⟨rfl, hf⟩
  exact ⟨rfl, h.below hf⟩
end
end Go.Proofs.YtjcfnflkiialbaaDoor.Sha
