/-
  Small facts that many texts use. What the walks of regions that draw their order stand on: what an operation does, each said once.
-/
import Derived.Test.YtjcmgpiapbeodaaDoorRoot
import Derived.Test.YtjcmgpiapbeodaaDoorWLast
namespace Go.Proofs.YtjcmgpiapbeodaaDoor.Pl
theorem low_here : True := trivial
end Go.Proofs.YtjcmgpiapbeodaaDoor.Pl
namespace Go.Proofs.YtjcmgpiapbeodaaDoor.Sha
open Go.RowKit Go.Proofs.YtjcmgpiapbeodaaDoor.Mem Go.Proofs.YtjcmgpiapbeodaaDoorW.PrintWords Go.Proofs.YtjcmgpiapbeodaaDoorW.PrintLast Go.Proofs.YtjcmgpiapbeodaaDoorW.PrintMore
def z32 : List Int := List.replicate 32 0
theorem fr_drawn {w w' : World} (h : Drawn0 w w') : Fr (fun _ => False) w w' := by
  obtain ⟨n, rfl⟩ := h
  exact (Fr.refl _ w).drewN n
theorem blk_ne_type {w : World} {b : Nat} {T T' : TypeId} {vs : List Value} {cur : Array Value} {k : Nat} (h : Blk w b T vs) (hk : w.heap[k]? = some (.cells cur T' (0, 0))) (ht : T ≠ T') : b ≠ k := by
  intro e
  subst e
  unfold Blk at h
  rw [hk] at h
  simp only [Option.some.injEq, Obj.cells.injEq] at h
  exact ht h.2.1.symm
theorem HOwn.low {w : World} {base : Nat} {v : Value} {L : List (List Int)} {base' : Nat} (h : HOwn w base v L) (hb : base' ≤ base) : HOwn w base' v L := by
  refine ⟨h.1, h.2.1, ?_⟩
  rcases h.2.2 with h' | ⟨g, cap, cur, hv, hg, hr⟩
  · exact .inl h'
  · exact .inr ⟨g, cap, cur, hv, Nat.le_trans hb hg, hr⟩
theorem results_cell_tmp {P : Program} {fn : Func} {p q : Tmp} {ty : TypeId} (h : fn.results = #[.cell p ty, .tmp q]) (tmps : Array Value) (w : World) (g : Nat) (t : TypeId) (cs : Array Value) (fr : Nat × Nat) (d : TypeDesc) (v : Value)
    (hp : tmps.getD p undef = .pointer (some ⟨g, 0, none⟩)) (hq : tmps.getD q undef = v) (hg : w.heap[g]? = some (.cells cs t fr))
    (hu : P.underlying ty = some d) (hd : (match d with | .struct _ | .array _ _ => true | _ => false) = true) (hi : (P.info? ty).map (·.size) = some cs.size) :
    (results fn tmps).run P w = .ok (.tuple #[.agg cs, v]) w := by
  have hp' : tmps[p]?.getD undef = .pointer (some ⟨g, 0, none⟩) := by simpa using hp
  have hq' : tmps[q]?.getD undef = v := by simpa using hq
  simp [results, h, hp', hq', asAddr, run_loadVar_row w g t ty cs fr d hg hu hd hi]
end Go.Proofs.YtjcmgpiapbeodaaDoor.Sha
namespace Go.Proofs.YtjcmgpiapbeodaaDoor.Sha
open Go.RowKit Go.Proofs.YtjcmgpiapbeodaaDoor.Mem Go.Proofs.YtjcmgpiapbeodaaDoorW.PrintWords Go.Proofs.YtjcmgpiapbeodaaDoorW.PrintLast Go.Proofs.YtjcmgpiapbeodaaDoor.Pl Go.Proofs.YtjcmgpiapbeodaaDoor.Wk
/-- In world w a load of type T through p gives v. -/
def Lds (w : World) (T : TypeId) (p v : Value) : Prop := ∀ (ev : Operand → Value) (o : Oper) (x : Operand), o.op = .load T x → ev x = p → (execOp ev o).run Tryd.prog w = .ok (.value v) w
theorem Lds.run {w : World} {T : TypeId} {p v : Value} (h : Lds w T p v) {ev : Operand → Value} {o : Oper} {x : Operand} (ho : o.op = .load T x) (hx : ev x = p) : (execOp ev o).run Tryd.prog w = .ok (.value v) w := h ev o x ho hx
theorem lds_int {w : World} {a : Addr} {v : Value} (h : w.cell? a = some v) : Lds w 2 (.pointer (some a)) v := by
  intro ev o x ho hx
  unfold execOp
  simp only [ho, hx]
  go_simp
theorem lds_list {w : World} {a : Addr} {v : Value} (h : w.cell? a = some v) : Lds w 41 (.pointer (some a)) v := by
  intro ev o x ho hx
  unfold execOp
  simp only [ho, hx]
  go_simp
theorem lds_node {w : World} {a : Addr} {v : Value} (h : w.cell? a = some v) : Lds w 84 (.pointer (some a)) v := by
  intro ev o x ho hx
  unfold execOp
  simp only [ho, hx]
  go_simp
theorem lds_mid {w : World} {b o : Nat} (hx0 : midOk w 32 (.pointer (some ⟨b, o, none⟩)) = true) : Lds w 29 (.pointer (some ⟨b, o, none⟩)) (.agg (midAt w 32 (.pointer (some ⟨b, o, none⟩)))) := by
  intro ev op x ho hx
  obtain ⟨cs, t, fr, hb, hz⟩ : ∃ cs t fr, w.heap[b]? = some (.cells cs t fr) ∧ o + 32 ≤ cs.size := by
    unfold midOk at hx0
    simp only at hx0
    split at hx0
    · rename_i cs t fr hb
      exact ⟨cs, t, fr, hb, of_decide_eq_true hx0⟩
    · cases hx0
  have hi : (Tryd.prog.info? 29).map (·.size) = some 32 := by kernel_rfl
  have h := run_loadAt_mid (P := Tryd.prog) w b o 29 (cs.extract o (o + 32)).toList _ (World.rangeAt_of_block hb o 32) Tryd.underlying29 rfl (by rw [hi, Array.length_toList, Array.size_extract, show min (o + 32) cs.size - o = 32 by omega])
  have hra : midAt w 32 (.pointer (some ⟨b, o, none⟩)) = cs.extract o (o + 32) := by simp only [midAt, hb]
  unfold execOp
  simp only [ho, hx, Sem.run_bind, h, Result.andThen_ok, Sem.run_pure, Array.toArray_toList, hra]
theorem lds_blk {w : World} {b : Nat} {T : TypeId} {l : List Int} (h : Blk w b T (bytes l)) (hl : l.length = 32) : Lds w 29 (.pointer (some ⟨b, 0, none⟩)) (.agg (bytes l).toArray) := by
  have h1 := midOk_blk (o := 0) (n := 32) h (by rw [bytes_length, hl]; decide)
  have h2 := midAt_blk (o := 0) (n := 32) h
  rw [List.drop_zero, List.take_of_length_le (by rw [bytes_length, hl]; exact Nat.le_refl _)] at h2
  rw [← h2]
  exact lds_mid h1
theorem lds_row {w : World} {S : Nat → Prop} {b o c : Nat} {L : List (List Int)} (h : HRow w S (some ⟨b, o, none⟩) c L) (i : Nat) (hi : i < L.length) : Lds w 29 (.pointer (some ⟨b, o + i * 32, none⟩)) (.agg (bytes L[i]).toArray) := by
  obtain ⟨m1, m2⟩ := h.mid i hi
  rw [← m2]
  exact lds_mid m1
theorem Lds.drew {w : World} {T : TypeId} {p v : Value} (h : Lds w T p v) (hd : Lds w T p v → Lds w.drew T p v) : Lds w.drew T p v := hd h
/-- A store of a hash into a block of its own. -/
theorem st_hash (ev : Operand → Value) (o : Oper) (x y : Operand) (w : World) (b : Nat) (T : TypeId) (vs : List Value) (l : List Int) (ho : o.op = .store 29 x y) (hx : ev x = .pointer (some ⟨b, 0, none⟩)) (hy : ev y = .agg (bytes l).toArray) (hb : Blk w b T vs) (hv : vs.length = 32) (hl : l.length = 32) :
    (execOp ev o).run Tryd.prog w = .ok .skip (w.setRow b (bytes l).toArray) := by
  have hi : (Tryd.prog.info? 29).map (·.size) = some 32 := by kernel_rfl
  have h1 : (bytes l).toArray.all (·.oneCell') = true := by
    rw [Array.all_eq_true_iff_forall_mem]
    intro u hu
    have hu' : u ∈ bytes l := by simpa using hu
    obtain ⟨z, _, rfl⟩ := List.mem_map.1 hu'
    rfl
  have hr := run_storeVar_row (P := Tryd.prog) w b T 29 vs.toArray (bytes l).toArray hb (by rw [hi]; simp [bytes, hl]) (by simp [bytes, hl, hv]) h1
  unfold execOp
  simp only [ho, hx, hy, Instr.storeAt, Instr.sureAddr, Sem.run_bind, Sem.run_pure, Result.andThen_ok, hr]
theorem wpList_storeH {ops : Array Oper} {rest : List Oper} {o : Oper} {a : Act} {w : World} {Q : Exit → Act → World → Prop} (hg : o.guard = none) (hd : o.dst = none) (x y : Operand) (ho : o.op = .store 29 x y) (b : Nat) (T : TypeId) (vs : List Value) (l : List Int)
    (hx : a.eval x = .pointer (some ⟨b, 0, none⟩)) (hy : a.eval y = .agg (bytes l).toArray) (hb : Blk w b T vs) (hv : vs.length = 32) (hl : l.length = 32) (h : wpList Tryd.prog ops Q rest (a.put none undef) (w.setRow b (bytes l).toArray)) : wpList Tryd.prog ops Q (o :: rest) a w := by
  refine wpList_plain hg fun _ hK => ?_
  unfold Oper.wp
  rw [st_hash a.eval o x y w b T vs l ho hx hy hb hv hl]
  show _
  have h1 := hK _ _ h
  rw [← hd] at h1
  exact h1
/-- A store of one cell. -/
theorem st_list (ev : Operand → Value) (o : Oper) (x y : Operand) (w : World) (b i : Nat) (T : TypeId) (vs : List Value) (A : Option Addr) (n c : Nat) (ho : o.op = .store 41 x y) (hx : ev x = .pointer (some ⟨b, i, none⟩)) (hy : ev y = .slice A n c) (hb : Blk w b T vs) (hi : i < vs.length) :
    (execOp ev o).run Tryd.prog w = .ok .skip (w.setCell ⟨b, i, none⟩ (.slice A n c)) := by
  have c1 : w.cell? ⟨b, i, none⟩ = some vs[i] := hb.cell i _ (List.getElem?_eq_getElem hi)
  have f1 : w.frozen? ⟨b, i, none⟩ = false := hb.free i
  unfold execOp
  simp only [ho, hx, hy]
  go_simp
/-- The making of a list of one hash. -/
theorem bs_hash (ev : Operand → Value) (o : Oper) (x : Operand) (w : World) (l : List Int) (ho : o.op = .buildSlice 41 1 #[(0, x)]) (hx : ev x = .agg (bytes l).toArray) (hl : l.length = 32) :
    (execOp ev o).run Tryd.prog w = .ok (.value (.slice (some ⟨w.heap.size, 0, none⟩) 1 1)) (w.alloc (.cells (bytes l).toArray 29)) := by
  have hb := built_row (bytes l) (by rw [bytes_length, hl])
  unfold Program.builtSlice at hb
  cases hie : Tryd.prog.info? 29 with
  | none => simp [hie] at hb
  | some ie =>
    simp only [hie] at hb
    cases hz : ie.zero with
    | none => simp [hz] at hb
    | some z =>
      simp only [hz] at hb
      by_cases hc : 1 * ie.size > 2 ^ 24 ∨ 1 * ie.size = 0
      · rw [if_pos hc] at hb; cases hb
      · rw [if_neg hc] at hb
        have h := run_buildSlice (P := Tryd.prog) w 41 29 1 #[(0, .agg (bytes l).toArray)] _ ie z Tryd.underlying41 hie hz (fun h' => hc (Or.inl h')) (fun h' => hc (Or.inr h')) hb
        unfold execOp
        simp only [ho, List.map_toArray, List.map_cons, List.map_nil, hx, Sem.run_bind, h, Result.andThen_ok, Sem.run_pure]
/-- An append whose run is known. -/
theorem ap_exec {ev : Operand → Value} {o : Oper} {w w' : World} {v v' : Value} {A : Option Addr} {m c : Nat} (hr : (Builtin.append_ #[41, 41] 41 #[v, .slice A m c]).run Tryd.prog w = .ok v' w') (s x : Operand)
    (ho : o.op = .call { callee := .builtin .append, args := #[s, x], argTypes := #[41, 41] }) (hty : o.type = 41) (hs : ev s = v) (hx : ev x = .slice A m c) :
    (execOp ev o).run Tryd.prog w = .ok (.value v') w' := by
  unfold execOp
  simp only [ho, resolve, invoke, builtin, Sem.run_bind, Sem.run_pure, Result.andThen_ok, List.map_toArray, List.map_cons, List.map_nil, hs, hx, hty, hr]
/-- A call through a function value that holds what it has captured. -/
theorem goesC_ {P : Program} {ops : Array Oper} {Q : Exit → Act → World → Prop} {oi : Oper} {N : Option Tmp} {a : Act} {w : World} {K : Act → World → Prop} {f : FuncId} {fn : Func} (c : Operand) {xs : Array Operand} {ts : Array TypeId} (hf : P.funcs[f]? = some fn) (hname : (fn.name == "runtime.NumGoroutine") = false) (hb : fn.body.isSome = true) (cap args : Array Value)
    (hw : Region.wanted oi (yielded ops a.tmps) = true) (hN : oi.dst = N) (hop : oi.op = .call { callee := .value c, args := xs, argTypes := ts }) (hc : a.eval c = .func (.func f) #[] cap) (hargs : xs.map a.eval ++ cap = args)
    (h : Calls P f args w fun e w' => ∃ v, e = .returned v ∧ K (a.put N v) w') : if Region.wanted oi (yielded ops a.tmps) = true then Oper.wp P oi a w K Q else K (a.put N undef) w := by
  refine call_ f args hw hN ?_ h
  have he := enters_ hf hname hb args w
  unfold execOp
  simp [hop, resolve, Deferred.ofValue, invoke, hc, hargs, he]
end Go.Proofs.YtjcmgpiapbeodaaDoor.Sha
