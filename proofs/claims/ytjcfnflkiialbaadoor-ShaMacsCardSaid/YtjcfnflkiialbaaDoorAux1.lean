/-
  Sum, Sum256, Sum512 and abc, for either kind; the sums that are closed.
-/
import Derived.Test.YtjcfnflkiialbaaDoorSum64
import Derived.Test.YtjcfnflkiialbaaDoorShaState
import Derived.Lib.SlBytesConst
namespace Go.Proofs.YtjcfnflkiialbaaDoor.Sha
open Go.RowKit Go.Proofs.YtjcfnflkiialbaaDoor.Mem Go.Proofs.YtjcfnflkiialbaaDoorW.PrintWords
theorem rest_lt (s : St) (hs : s.Ok) : s.rest.length < blk s.B := by rw [hs.rest]; exact Nat.mod_lt _ (blk_pos s.B)
theorem sum_calls (s : St) (hs : s.Ok) (b : Nat) (rv : Value) (w : World) (hL : Laid w) (hD : Dg w b rv s) :
    Calls Tryd.prog 31 #[.pointer (some ⟨b, 0, none⟩)] w fun e w' => ∃ v, e = .returned v ∧ Own w' w.heap.size v s.sum ∧ Below w.heap.size w w' := by
  have hr := rest_lt s hs
  have hc := hs.cnt
  obtain ⟨B, cnt, c, rs⟩ := s
  cases B
  · exact S32.sum_calls b cnt c rv rs hr hc w hL hD
  · exact S64.sum_calls b cnt c rv rs hr hc w hL hD
theorem words_length (B : Bool) (c : Chain) : (words B c).length = out B := by
  cases B <;> simp [words, Eight.list, layWord, out]
theorem hash_length (B : Bool) (p : List Int) : (hash B p).length = out B := by
  have h : ((St.new B).write p).B = B := by unfold St.write; split <;> rfl
  unfold hash St.sum
  rw [words_length, h]
theorem bytes_length (l : List Int) : (bytes l).length = l.length := by simp [bytes]
theorem bytes_one (l : List Int) : (bytes l).toArray.all (fun x => x.oneCell') = true := by
  simp [bytes, Value.oneCell']
theorem reads_range {w : World} {b o : Nat} {l : List Int} (h : Reads w b o l) : w.rangeAt b o (bytes l) := fun j v hv => by
  have hj : j < l.length := by
    rcases Nat.lt_or_ge j l.length with h | h
    · exact h
    · rw [List.getElem?_eq_none (by simpa [bytes] using h)] at hv; cases hv
  rw [bytes_get l j hj] at hv
  rw [h.2 j hj, ← hv]
/-- what the call was given lies in old memory -/
theorem src_out {w w1 : World} {A : Option Addr} {c : Nat} {p : List Int} {S : Nat → Prop} (h : Src w (fun _ => False) A c p) (hF : Fr (fun _ => False) w w1) (hS : ∀ k, k < w.heap.size → ¬ S k) : Src w1 S A c p := by
  refine ⟨h.1, ?_⟩
  rcases h.2 with h' | h' | ⟨bs, os, h1, h2, _⟩
  · exact .inl h'
  · exact .inr (.inl h')
  · exact .inr (.inr ⟨bs, os, h1, h2.fr hF (fun h => h), hS bs h2.1⟩)
end Go.Proofs.YtjcfnflkiialbaaDoor.Sha
namespace Go.Proofs.YtjcfnflkiialbaaDoor.Sha.F32
open Go.RowKit Go.Proofs.YtjcfnflkiialbaaDoor.Mem Go.Proofs.YtjcfnflkiialbaaDoorW.PrintWords
theorem array_at (g c : Nat) (w : World) : (Instr.arrayAt 41 (.slice (some ⟨g, 0, none⟩) 32 c)).run Tryd.prog w = .ok (.pointer (some ⟨g, 0, none⟩)) w := by
  simp [Instr.arrayAt, run_underlying Tryd.underlying41, go_sem]
set_option maxHeartbeats 4000000 in
set_option maxRecDepth 100000 in
theorem hash_calls (A : Option Addr) (cp : Nat) (p : List Int) (w : World) (hL : Laid w) (hX : Src w (fun _ => False) A cp p) (hmax : p.length ≤ maxCount) :
    Calls Tryd.prog 23 #[.slice A p.length cp] w fun e w' => e = .returned (.agg (bytes (hash false p)).toArray) ∧ Below w.heap.size w w' := by
  have HX := Kp.mk hX
  have HL := Kp.mk hL
  clear hX hL
  have hk : kind false = 256 := rfl
  go_enter Tryd.func23, Tryd.ntmps23
  go_wp2_with fail
  have HR0 : Kp (Blk (w.alloc (.cells (List.replicate 32 (Value.int .u8 0)).toArray 41)) w.heap.size 41 (List.replicate 32 (Value.int .u8 0))) := ⟨Blk.new w _ _⟩
  have HF0 : Kp (Fr (fun _ => False) w (w.alloc (.cells (List.replicate 32 (Value.int .u8 0)).toArray 41))) := ⟨(Fr.refl _ w).alloc _⟩
  refine (new_calls false (w.alloc (.cells (List.replicate 32 (Value.int .u8 0)).toArray 41)) (HL.out.fr HF0.out (fun _ h => h.elim))).mono ?_
  rintro e w1 ⟨b, rfl, hb, hD, hB⟩
  have HF1 := Kp.mk (HF0.out.then_below hB)
  have HR1 := Kp.mk (HR0.out.below hB)
  have HD1 := Kp.mk hD
  have HBB := Kp.mk hb
  clear HR0 HF0 hD hB hb
  go_wp2_with fail
  have hnew : ∀ k, k < w.heap.size → ¬ dfoot b (.slice none 0 0) k := fun k hk h => by
    rcases h with h | h
    · have := HBB.out; simp at this; omega
    · cases h
  refine (write_calls (St.new false) (new_ok false) b (.slice none 0 0) A cp p (by show 0 + p.length ≤ maxCount; omega) w1 (HL.out.fr HF1.out (fun _ h => h.elim)) HD1.out (src_out HX.out HF1.out hnew)).mono ?_
  rintro e w2 ⟨r, rv, rfl, hD, hH, hF⟩
  have HR2 := Kp.mk (HR1.out.fr hF (fun h => h.elim (fun h => by have := HBB.out; simp at this; omega) (fun h => by cases h)))
  have HF2 : Kp (Fr (fun _ => False) w w2) := ⟨HF1.out.trans hF (fun k hk h => hnew k hk h)⟩
  have HD2 := Kp.mk hD
  clear hD hH hF HR1 HF1 HD1 hnew
  go_wp2_with fail
  refine (sum_calls ((St.new false).write p) (write_ok _ (new_ok false) p) b rv w2 (HL.out.fr HF2.out (fun _ h => h.elim)) HD2.out).mono ?_
  rintro e w3 ⟨v, rfl, hO, hB⟩
  have hlen : (hash false p).length = 32 := hash_length false p
  have HO : Kp (w3.ownsRow w2.heap.size 5 1 v (hash false p).length (bytes (hash false p))) := ⟨hO⟩
  have HR3 := Kp.mk (HR2.out.below hB)
  have HF3 := Kp.mk (HF2.out.then_below hB)
  clear hO hB HR2 HF2 HD2 HX HL
  generalize hh : hash false p = h at HO hlen ⊢
  have HH := Kp.mk hh
  clear hh
  obtain ⟨g, cg, rfl, hg1, hg2, hg3, hg4⟩ := own_form HO.out (by omega)
  have HRD := Kp.mk hg4
  have HGE : Kp (g ≠ w.heap.size) := ⟨by have := HR3.out.lt; have := HF3.out.size; intro e; exact own_ne HO.out rfl HR3.out (by decide) e⟩
  rw [hlen] at hg3 ⊢
  have HHL := Kp.mk hlen
  clear hg1 hg2 hg4 hlen
  have haa := array_at g cg
  have hsz : (bytes h).toArray.size = 32 := by rw [List.size_toArray, bytes_length, HHL.out]
  have hi1 : Kp ((Tryd.prog.info? 41).map (·.size) = some (bytes h).toArray.size) := ⟨by rw [hsz]; kernel_rfl⟩
  have hi2 : Kp ((Tryd.prog.info? 41).map (·.size) = some (bytes h).length) := ⟨by rw [bytes_length, HHL.out]; kernel_rfl⟩
  have ho1 : Kp ((List.replicate 32 (Value.int .u8 0)).toArray.size = (bytes h).toArray.size) := ⟨by rw [hsz]; rfl⟩
  have hrow : Kp (w3.heap[w.heap.size]? = some (.cells (List.replicate 32 (Value.int .u8 0)).toArray 41 (0, 0))) := ⟨HR3.out⟩
  clear hsz
  go_wp2_with (first | refine wpList_load_mid rfl 41 _ rfl g 0 rfl (bytes h) _ (reads_range HRD.out) Tryd.underlying41 rfl hi2.out ?_ | refine wpList_store_row rfl 41 _ _ rfl w.heap.size (bytes h).toArray rfl rfl 41 (List.replicate 32 (Value.int .u8 0)).toArray hrow.out hi1.out ho1.out (bytes_one h) ?_)
  have hrow2 : (w3.setRow w.heap.size (bytes h).toArray).heap[w.heap.size]? = some (.cells (bytes h).toArray 41 (0, 0)) := setRow_heap w3 w.heap.size _ _ _ _ hrow.out
  (try simp only [Exit.inBlock, Exit.then])
  refine bodyPost_ret (results_cell_row rfl _ _ w.heap.size 41 _ (0, 0) _ rfl hrow2 Tryd.underlying41 rfl hi1.out) rfl ?_
  refine ⟨by rw [HH.out], ?_⟩
  exact Fr.below (HF3.out.trans (S' := fun k => k = w.heap.size) ⟨rfl, rfl, rfl, by simp [World.setRow], fun k _ hk => setRow_other w3 w.heap.size k _ hk⟩ (fun k hk he => absurd hk (by rw [he]; exact Nat.lt_irrefl _))) (fun _ _ h => h)
end Go.Proofs.YtjcfnflkiialbaaDoor.Sha.F32
namespace Go.Proofs.YtjcfnflkiialbaaDoor.Sha.F64
open Go.RowKit Go.Proofs.YtjcfnflkiialbaaDoor.Mem Go.Proofs.YtjcfnflkiialbaaDoorW.PrintWords
theorem array_at (g c : Nat) (w : World) : (Instr.arrayAt 43 (.slice (some ⟨g, 0, none⟩) 64 c)).run Tryd.prog w = .ok (.pointer (some ⟨g, 0, none⟩)) w := by
  simp [Instr.arrayAt, run_underlying Tryd.underlying43, go_sem]
set_option maxHeartbeats 4000000 in
set_option maxRecDepth 100000 in
theorem hash_calls (A : Option Addr) (cp : Nat) (p : List Int) (w : World) (hL : Laid w) (hX : Src w (fun _ => False) A cp p) (hmax : p.length ≤ maxCount) :
    Calls Tryd.prog 24 #[.slice A p.length cp] w fun e w' => e = .returned (.agg (bytes (hash true p)).toArray) ∧ Below w.heap.size w w' := by
  have HX := Kp.mk hX
  have HL := Kp.mk hL
  clear hX hL
  have hk : kind true = 512 := rfl
  go_enter Tryd.func24, Tryd.ntmps24
  go_wp2_with fail
  have HR0 : Kp (Blk (w.alloc (.cells (List.replicate 64 (Value.int .u8 0)).toArray 43)) w.heap.size 43 (List.replicate 64 (Value.int .u8 0))) := ⟨Blk.new w _ _⟩
  have HF0 : Kp (Fr (fun _ => False) w (w.alloc (.cells (List.replicate 64 (Value.int .u8 0)).toArray 43))) := ⟨(Fr.refl _ w).alloc _⟩
  refine (new_calls true (w.alloc (.cells (List.replicate 64 (Value.int .u8 0)).toArray 43)) (HL.out.fr HF0.out (fun _ h => h.elim))).mono ?_
  rintro e w1 ⟨b, rfl, hb, hD, hB⟩
  have HF1 := Kp.mk (HF0.out.then_below hB)
  have HR1 := Kp.mk (HR0.out.below hB)
  have HD1 := Kp.mk hD
  have HBB := Kp.mk hb
  clear HR0 HF0 hD hB hb
  go_wp2_with fail
  have hnew : ∀ k, k < w.heap.size → ¬ dfoot b (.slice none 0 0) k := fun k hk h => by
    rcases h with h | h
    · have := HBB.out; simp at this; omega
    · cases h
  refine (write_calls (St.new true) (new_ok true) b (.slice none 0 0) A cp p (by show 0 + p.length ≤ maxCount; omega) w1 (HL.out.fr HF1.out (fun _ h => h.elim)) HD1.out (src_out HX.out HF1.out hnew)).mono ?_
  rintro e w2 ⟨r, rv, rfl, hD, hH, hF⟩
  have HR2 := Kp.mk (HR1.out.fr hF (fun h => h.elim (fun h => by have := HBB.out; simp at this; omega) (fun h => by cases h)))
  have HF2 : Kp (Fr (fun _ => False) w w2) := ⟨HF1.out.trans hF (fun k hk h => hnew k hk h)⟩
  have HD2 := Kp.mk hD
  clear hD hH hF HR1 HF1 HD1 hnew
  go_wp2_with fail
  refine (sum_calls ((St.new true).write p) (write_ok _ (new_ok true) p) b rv w2 (HL.out.fr HF2.out (fun _ h => h.elim)) HD2.out).mono ?_
  rintro e w3 ⟨v, rfl, hO, hB⟩
  have hlen : (hash true p).length = 64 := hash_length true p
  have HO : Kp (w3.ownsRow w2.heap.size 5 1 v (hash true p).length (bytes (hash true p))) := ⟨hO⟩
  have HR3 := Kp.mk (HR2.out.below hB)
  have HF3 := Kp.mk (HF2.out.then_below hB)
  clear hO hB HR2 HF2 HD2 HX HL
  generalize hh : hash true p = h at HO hlen ⊢
  have HH := Kp.mk hh
  clear hh
  obtain ⟨g, cg, rfl, hg1, hg2, hg3, hg4⟩ := own_form HO.out (by omega)
  have HRD := Kp.mk hg4
  have HGE : Kp (g ≠ w.heap.size) := ⟨by have := HR3.out.lt; have := HF3.out.size; intro e; exact own_ne HO.out rfl HR3.out (by decide) e⟩
  rw [hlen] at hg3 ⊢
  have HHL := Kp.mk hlen
  clear hg1 hg2 hg4 hlen
  have haa := array_at g cg
  have hsz : (bytes h).toArray.size = 64 := by rw [List.size_toArray, bytes_length, HHL.out]
  have hi1 : Kp ((Tryd.prog.info? 43).map (·.size) = some (bytes h).toArray.size) := ⟨by rw [hsz]; kernel_rfl⟩
  have hi2 : Kp ((Tryd.prog.info? 43).map (·.size) = some (bytes h).length) := ⟨by rw [bytes_length, HHL.out]; kernel_rfl⟩
  have ho1 : Kp ((List.replicate 64 (Value.int .u8 0)).toArray.size = (bytes h).toArray.size) := ⟨by rw [hsz]; rfl⟩
  have hrow : Kp (w3.heap[w.heap.size]? = some (.cells (List.replicate 64 (Value.int .u8 0)).toArray 43 (0, 0))) := ⟨HR3.out⟩
  clear hsz
  go_wp2_with (first | refine wpList_load_mid rfl 43 _ rfl g 0 rfl (bytes h) _ (reads_range HRD.out) Tryd.underlying43 rfl hi2.out ?_ | refine wpList_store_row rfl 43 _ _ rfl w.heap.size (bytes h).toArray rfl rfl 43 (List.replicate 64 (Value.int .u8 0)).toArray hrow.out hi1.out ho1.out (bytes_one h) ?_)
  have hrow2 : (w3.setRow w.heap.size (bytes h).toArray).heap[w.heap.size]? = some (.cells (bytes h).toArray 43 (0, 0)) := setRow_heap w3 w.heap.size _ _ _ _ hrow.out
  (try simp only [Exit.inBlock, Exit.then])
  refine bodyPost_ret (results_cell_row rfl _ _ w.heap.size 43 _ (0, 0) _ rfl hrow2 Tryd.underlying43 rfl hi1.out) rfl ?_
  refine ⟨by rw [HH.out], ?_⟩
  exact Fr.below (HF3.out.trans (S' := fun k => k = w.heap.size) ⟨rfl, rfl, rfl, by simp [World.setRow], fun k _ hk => setRow_other w3 w.heap.size k _ hk⟩ (fun k hk he => absurd hk (by rw [he]; exact Nat.lt_irrefl _))) (fun _ _ h => h)
end Go.Proofs.YtjcfnflkiialbaaDoor.Sha.F64
namespace Go.Proofs.YtjcfnflkiialbaaDoor.Sha
theorem abc256 : hash false [97, 98, 99] = [186, 120, 22, 191, 143, 1, 207, 234, 65, 65, 64, 222, 93, 174, 34, 35, 176, 3, 97, 163, 150, 23, 122, 156, 180, 16, 255, 97, 242, 0, 21, 173] := by decide +kernel
theorem abc512 : hash true [97, 98, 99] = [221, 175, 53, 161, 147, 97, 122, 186, 204, 65, 115, 73, 174, 32, 65, 49, 18, 230, 250, 78, 137, 169, 126, 162, 10, 158, 238, 230, 75, 85, 211, 154, 33, 146, 153, 42, 39, 79, 193, 168, 54, 186, 60, 35, 163, 254, 235, 189, 69, 77, 68, 35, 100, 60, 232, 14, 42, 154, 201, 79, 165, 76, 164, 159] := by decide +kernel
theorem nil256 : hash false [] = [227, 176, 196, 66, 152, 252, 28, 20, 154, 251, 244, 200, 153, 111, 185, 36, 39, 174, 65, 228, 100, 155, 147, 76, 164, 149, 153, 27, 120, 82, 184, 85] := by decide +kernel
end Go.Proofs.YtjcfnflkiialbaaDoor.Sha
namespace Go.Proofs.YtjcfnflkiialbaaDoor.Sha
open Go.RowKit Go.Proofs.YtjcfnflkiialbaaDoor.Mem Go.Proofs.YtjcfnflkiialbaaDoorW.PrintWords
theorem size32 (h : List Int) (hl : h.length = 32) : (Tryd.prog.info? 41).map (·.size) = some (bytes h).toArray.size ∧ (List.replicate 32 (Value.int .u8 0)).toArray.size = (bytes h).toArray.size := by
  have hsz : (bytes h).toArray.size = 32 := by rw [List.size_toArray, bytes_length, hl]
  exact ⟨by rw [hsz]; kernel_rfl, by rw [hsz]; rfl⟩
theorem size64 (h : List Int) (hl : h.length = 64) : (Tryd.prog.info? 43).map (·.size) = some (bytes h).toArray.size ∧ (List.replicate 64 (Value.int .u8 0)).toArray.size = (bytes h).toArray.size := by
  have hsz : (bytes h).toArray.size = 64 := by rw [List.size_toArray, bytes_length, hl]
  exact ⟨by rw [hsz]; kernel_rfl, by rw [hsz]; rfl⟩
/-- a new variable that was written full at once -/
theorem fr_row {w w1 : World} {S : Nat → Prop} (h : Fr S w w1) (o : Obj) (cs : Array Value) : Fr S w ((w1.alloc o).setRow w1.heap.size cs) :=
  (h.alloc o).trans (S' := fun k => k = w1.heap.size) ⟨rfl, rfl, rfl, by simp [World.setRow], fun k _ hk => setRow_other _ _ k _ hk⟩ (fun k hk he => absurd hk (by rw [he]; exact Nat.not_lt_of_le h.size))
theorem blk_row (w1 : World) (T : TypeId) (old : Array Value) (cs : List Value) : Blk ((w1.alloc (.cells old T)).setRow w1.heap.size cs.toArray) w1.heap.size T cs := setRow_heap _ _ _ _ _ _ (heap_alloc_new w1 _)
theorem blk_keep {w w1 : World} {S : Nat → Prop} {b : Nat} {T : TypeId} {vs : List Value} (h : Blk w b T vs) (hf : Fr S w w1) (hs : ¬ S b) (o : Obj) (cs : Array Value) : Blk ((w1.alloc o).setRow w1.heap.size cs) b T vs := h.fr (fr_row hf o cs) hs
theorem conv_bytes (w : World) (C : Array Value) (n c : Nat) : (convert 23 23 (.slice (some ⟨w.heap.size, 0, none⟩) n c)).run Tryd.prog (w.alloc (.cells C 5)) = .ok (.slice (some ⟨w.heap.size, 0, none⟩) n c) (w.alloc (.cells C 5 (C.size, C.size + 1))) :=
  Lib.run_convert_bytes_const (P := Tryd.prog) w 23 5 C n c Tryd.underlying23 Tryd.underlying5
theorem src_mark (w : World) (p : List Int) (e : TypeId) (c : Nat) (fr : Nat × Nat) (hc : p.length ≤ c) : Src (w.alloc (.cells (bytes p).toArray e fr)) (fun _ => False) (some ⟨w.heap.size, 0, none⟩) c p := by
  refine ⟨hc, .inr (.inr ⟨_, _, rfl, ⟨by simp, fun i hi => ?_⟩, fun h => h⟩)⟩
  rw [Nat.zero_add, ← bytes_get p i hi]
  unfold World.cell?
  rw [show (w.alloc (.cells (bytes p).toArray e fr)).heap[w.heap.size]? = some _ from heap_alloc_new w _]
  simp
set_option maxHeartbeats 4000000 in
set_option maxRecDepth 100000 in
theorem abc_calls (w : World) (hL : Laid w) : Calls Tryd.prog 28 #[] w fun e w' => e = .returned (.bool true) ∧ Below w.heap.size w w' := by
  have HL := Kp.mk hL
  clear hL
  obtain ⟨h1, hh1⟩ : ∃ h, h = hash false [97, 98, 99] := ⟨_, rfl⟩
  obtain ⟨h2, hh2⟩ : ∃ h, h = hash true [97, 98, 99] := ⟨_, rfl⟩
  obtain ⟨h3, hh3⟩ : ∃ h, h = hash false [] := ⟨_, rfl⟩
  have z1 := Kp.mk (size32 h1 (by rw [hh1]; exact hash_length false _))
  have z2 := Kp.mk (size64 h2 (by rw [hh2]; exact hash_length true _))
  have z3 := Kp.mk (size32 h3 (by rw [hh3]; exact hash_length false _))
  have H1 := Kp.mk (hh1.trans abc256)
  have H2 := Kp.mk (hh2.trans abc512)
  have H3 := Kp.mk (hh3.trans nil256)
  have G1 := Kp.mk hh1
  have G2 := Kp.mk hh2
  have G3 := Kp.mk hh3
  clear hh1 hh2 hh3
  have hcv := conv_bytes
  go_enter Tryd.func28, Tryd.ntmps28
  go_wp2_with fail
  have F0 : Kp (Fr (fun _ => False) w (w.alloc (.cells (bytes [97, 98, 99]).toArray 5 (3, 4)))) := ⟨(Fr.refl _ w).alloc _⟩
  refine (F32.hash_calls (some ⟨w.heap.size, 0, none⟩) 3 [97, 98, 99] (w.alloc (.cells (bytes [97, 98, 99]).toArray 5 (3, 4))) (HL.out.fr F0.out (fun _ h => h.elim)) (src_mark w [97, 98, 99] 5 3 (3, 4) (Nat.le_refl _)) (by decide)).mono ?_
  rintro e w1 ⟨he, B1⟩
  rw [← G1.out] at he
  subst he
  have F1 := Kp.mk (F0.out.then_below B1)
  clear B1 F0
  go_wp2_with (first | (refine wpList_store_row rfl 41 _ _ rfl w1.heap.size (bytes h1).toArray rfl rfl 41 (List.replicate 32 (Value.int .u8 0)).toArray (heap_alloc_new w1 _) z1.out.1 z1.out.2 (bytes_one h1) ?_; generalize hW : (World.setRow _ w1.heap.size (bytes h1).toArray) = v1; have FV1 : Kp (Fr (fun _ => False) w v1) := ⟨by rw [← hW]; exact fr_row F1.out _ _⟩; have BV1 : Kp (Blk v1 w1.heap.size 41 (bytes h1)) := ⟨by rw [← hW]; exact blk_row w1 _ _ _⟩; have GV1 : Kp (∀ b T vs, Blk w1 b T vs → Blk v1 b T vs) := ⟨fun b T vs h => by rw [← hW]; exact blk_keep h (Fr.refl (fun _ => False) w1) (fun h => h) _ _⟩; clear hW; generalize w1.heap.size = b1 at BV1 ⊢) | fail)
  have F0 : Kp (Fr (fun _ => False) w (v1.alloc (.cells (bytes [97, 98, 99]).toArray 5 (3, 4)))) := ⟨FV1.out.alloc _⟩
  refine (F64.hash_calls (some ⟨v1.heap.size, 0, none⟩) 3 [97, 98, 99] (v1.alloc (.cells (bytes [97, 98, 99]).toArray 5 (3, 4))) (HL.out.fr F0.out (fun _ h => h.elim)) (src_mark v1 [97, 98, 99] 5 3 (3, 4) (Nat.le_refl _)) (by decide)).mono ?_
  rintro e w2 ⟨he, B2⟩
  rw [← G2.out] at he
  subst he
  have F2 := Kp.mk (F0.out.then_below B2)
  have BW1 := Kp.mk ((BV1.out.alloc (.cells (bytes [97, 98, 99]).toArray 5 (3, 4))).below B2)
  clear B2 F0 FV1 BV1 GV1 F1
  go_wp2_with (first | (refine wpList_store_row rfl 43 _ _ rfl w2.heap.size (bytes h2).toArray rfl rfl 43 (List.replicate 64 (Value.int .u8 0)).toArray (heap_alloc_new w2 _) z2.out.1 z2.out.2 (bytes_one h2) ?_; generalize hW : (World.setRow _ w2.heap.size (bytes h2).toArray) = v2; have FV2 : Kp (Fr (fun _ => False) w v2) := ⟨by rw [← hW]; exact fr_row F2.out _ _⟩; have BV2 : Kp (Blk v2 w2.heap.size 43 (bytes h2)) := ⟨by rw [← hW]; exact blk_row w2 _ _ _⟩; have GV2 : Kp (∀ b T vs, Blk w2 b T vs → Blk v2 b T vs) := ⟨fun b T vs h => by rw [← hW]; exact blk_keep h (Fr.refl (fun _ => False) w2) (fun h => h) _ _⟩; clear hW; generalize w2.heap.size = b2 at BV2 ⊢) | fail)
  have BW2 := Kp.mk (GV2.out _ _ _ BW1.out)
  clear BW1 GV2
  refine (F32.hash_calls none 0 [] v2 (HL.out.fr FV2.out (fun _ h => h.elim)) ⟨Nat.zero_le _, .inl ⟨rfl, rfl, rfl⟩⟩ (by decide)).mono ?_
  rintro e w3 ⟨he, B3⟩
  rw [← G3.out] at he
  subst he
  have F3 := Kp.mk (FV2.out.then_below B3)
  have BX1 := Kp.mk (BW2.out.below B3)
  have BX2 := Kp.mk (BV2.out.below B3)
  clear B3 FV2 BV2 BW2 F2
  go_wp2_with (first | ((refine wpList_store_row rfl 41 _ _ rfl w3.heap.size (bytes h3).toArray rfl rfl 41 (List.replicate 32 (Value.int .u8 0)).toArray (heap_alloc_new w3 _) z3.out.1 z3.out.2 (bytes_one h3) ?_; generalize hW : (World.setRow _ w3.heap.size (bytes h3).toArray) = v3; have FV3 : Kp (Fr (fun _ => False) w v3) := ⟨by rw [← hW]; exact fr_row F3.out _ _⟩; have BV3 : Kp (Blk v3 w3.heap.size 41 (bytes h3)) := ⟨by rw [← hW]; exact blk_row w3 _ _ _⟩; have GV3 : Kp (∀ b T vs, Blk w3 b T vs → Blk v3 b T vs) := ⟨fun b T vs h => by rw [← hW]; exact blk_keep h (Fr.refl (fun _ => False) w3) (fun h => h) _ _⟩; clear hW; generalize w3.heap.size = b3 at BV3 ⊢); have BY1 := GV3.out _ _ _ BX1.out; have BY2 := GV3.out _ _ _ BX2.out; have BY3 := BV3.out; rw [H1.out] at BY1; rw [H2.out] at BY2; rw [H3.out] at BY3; have c10 := BY1.cell 0 (.int .u8 186) rfl; have c11 := BY1.cell 1 (.int .u8 120) rfl; have c12 := BY1.cell 2 (.int .u8 22) rfl; have c131 := BY1.cell 31 (.int .u8 173) rfl; have c20 := BY2.cell 0 (.int .u8 221) rfl; have c21 := BY2.cell 1 (.int .u8 175) rfl; have c22 := BY2.cell 2 (.int .u8 53) rfl; have c263 := BY2.cell 63 (.int .u8 159) rfl; have c30 := BY3.cell 0 (.int .u8 227) rfl; have c31 := BY3.cell 1 (.int .u8 176) rfl; have c331 := BY3.cell 31 (.int .u8 85) rfl; clear BY1 BY2 BY3))
  go_ret
  exact ⟨rfl, FV3.out.below (fun _ _ h => h)⟩
end Go.Proofs.YtjcfnflkiialbaaDoor.Sha
