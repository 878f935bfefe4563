/-
  The walk of Sum256.
-/
import Derived.Test.YtjcmgpiapbeodaaDoorDo
namespace Go.Proofs.YtjcmgpiapbeodaaDoor.Sha.F32
open Go.RowKit Go.Proofs.YtjcmgpiapbeodaaDoor.Mem Go.Proofs.YtjcmgpiapbeodaaDoorW.PrintWords
theorem array_at (g c : Nat) (w : World) : (Instr.arrayAt 29 (.slice (some ⟨g, 0, none⟩) 32 c)).run Tryd.prog w = .ok (.pointer (some ⟨g, 0, none⟩)) w := by
  simp [Instr.arrayAt, run_underlying Tryd.underlying29, go_sem]
set_option maxHeartbeats 4000000 in
set_option maxRecDepth 100000 in
theorem hash_calls (A : Option Addr) (cp : Nat) (p : List Int) (w : World) (hL : Laid w) (hX : Src w (fun _ => False) A cp p) (hmax : p.length ≤ maxCount) :
    Calls Tryd.prog 12 #[.slice A p.length cp] w fun e w' => e = .returned (.agg (bytes (hash false p)).toArray) ∧ Below w.heap.size w w' := by
  have HX := Kp.mk hX
  have HL := Kp.mk hL
  clear hX hL
  have hk : kind false = 256 := rfl
  go_enter Tryd.func12, Tryd.ntmps12
  go_wp2_with fail
  have HR0 : Kp (Blk (w.alloc (.cells (List.replicate 32 (Value.int .u8 0)).toArray 29)) w.heap.size 29 (List.replicate 32 (Value.int .u8 0))) := ⟨Blk.new w _ _⟩
  have HF0 : Kp (Fr (fun _ => False) w (w.alloc (.cells (List.replicate 32 (Value.int .u8 0)).toArray 29))) := ⟨(Fr.refl _ w).alloc _⟩
  refine (new_calls false (w.alloc (.cells (List.replicate 32 (Value.int .u8 0)).toArray 29)) (HL.out.fr HF0.out (fun _ h => h.elim))).mono ?_
  rintro e w1 ⟨b, rfl, hb, hD, hB⟩
  have HF1 := Kp.mk (HF0.out.then_below hB)
  have HR1 := Kp.mk (HR0.out.below hB)
  have HD1 := Kp.mk hD
  have HBB := Kp.mk hb
  clear HR0 HF0 hD hB hb
  go_wp2_with fail
  have hnew : ∀ k, k < w.heap.size → ¬ dfoot b (.slice none 0 0) k := fun k hk h => by
    rcases h with h | h
    · have := HBB.out; simp at this; omega
    · cases h
  refine (write_calls (St.new false) (new_ok false) b (.slice none 0 0) A cp p (by show 0 + p.length ≤ maxCount; omega) w1 (HL.out.fr HF1.out (fun _ h => h.elim)) HD1.out (src_out HX.out HF1.out hnew)).mono ?_
  rintro e w2 ⟨r, rv, rfl, hD, hH, hF⟩
  have HR2 := Kp.mk (HR1.out.fr hF (fun h => h.elim (fun h => by have := HBB.out; simp at this; omega) (fun h => by cases h)))
  have HF2 : Kp (Fr (fun _ => False) w w2) := ⟨HF1.out.trans hF (fun k hk h => hnew k hk h)⟩
  have HD2 := Kp.mk hD
  clear hD hH hF HR1 HF1 HD1 hnew
  go_wp2_with fail
  refine (sum_calls ((St.new false).write p) (write_ok _ (new_ok false) p) b rv w2 (HL.out.fr HF2.out (fun _ h => h.elim)) HD2.out).mono ?_
  rintro e w3 ⟨v, rfl, hO, hB⟩
  have hlen : (hash false p).length = 32 := hash_length false p
  have HO : Kp (w3.ownsRow w2.heap.size 5 1 v (hash false p).length (bytes (hash false p))) := ⟨hO⟩
  have HR3 := Kp.mk (HR2.out.below hB)
  have HF3 := Kp.mk (HF2.out.then_below hB)
  clear hO hB HR2 HF2 HD2 HX HL
  generalize hh : hash false p = h at HO hlen ⊢
  have HH := Kp.mk hh
  clear hh
  obtain ⟨g, cg, rfl, hg1, hg2, hg3, hg4⟩ := own_form HO.out (by omega)
  have HRD := Kp.mk hg4
  have HGE : Kp (g ≠ w.heap.size) := ⟨by have := HR3.out.lt; have := HF3.out.size; intro e; exact own_ne HO.out rfl HR3.out (by decide) e⟩
  rw [hlen] at hg3 ⊢
  have HHL := Kp.mk hlen
  clear hg1 hg2 hg4 hlen
  have haa := array_at g cg
  have hsz : (bytes h).toArray.size = 32 := by rw [List.size_toArray, bytes_length, HHL.out]
  have hi1 : Kp ((Tryd.prog.info? 29).map (·.size) = some (bytes h).toArray.size) := ⟨by rw [hsz]; kernel_rfl⟩
  have hi2 : Kp ((Tryd.prog.info? 29).map (·.size) = some (bytes h).length) := ⟨by rw [bytes_length, HHL.out]; kernel_rfl⟩
  have ho1 : Kp ((List.replicate 32 (Value.int .u8 0)).toArray.size = (bytes h).toArray.size) := ⟨by rw [hsz]; rfl⟩
  have hrow : Kp (w3.heap[w.heap.size]? = some (.cells (List.replicate 32 (Value.int .u8 0)).toArray 29 (0, 0))) := ⟨HR3.out⟩
  clear hsz
  go_wp2_with (first | refine wpList_load_mid rfl 29 _ rfl g 0 rfl (bytes h) _ (reads_range HRD.out) Tryd.underlying29 rfl hi2.out ?_ | refine wpList_store_row rfl 29 _ _ rfl w.heap.size (bytes h).toArray rfl rfl 29 (List.replicate 32 (Value.int .u8 0)).toArray hrow.out hi1.out ho1.out (bytes_one h) ?_)
  have hrow2 : (w3.setRow w.heap.size (bytes h).toArray).heap[w.heap.size]? = some (.cells (bytes h).toArray 29 (0, 0)) := setRow_heap w3 w.heap.size _ _ _ _ hrow.out
  (try simp only [Exit.inBlock, Exit.then])
  refine bodyPost_ret (results_cell_row rfl _ _ w.heap.size 29 _ (0, 0) _ rfl hrow2 Tryd.underlying29 rfl hi1.out) rfl ?_
  refine ⟨by rw [HH.out], ?_⟩
  exact Fr.below (HF3.out.trans (S' := fun k => k = w.heap.size) ⟨rfl, rfl, rfl, by simp [World.setRow], fun k _ hk => setRow_other w3 w.heap.size k _ hk⟩ (fun k hk he => absurd hk (by rw [he]; exact Nat.lt_irrefl _))) (fun _ _ h => h)
end Go.Proofs.YtjcmgpiapbeodaaDoor.Sha.F32
