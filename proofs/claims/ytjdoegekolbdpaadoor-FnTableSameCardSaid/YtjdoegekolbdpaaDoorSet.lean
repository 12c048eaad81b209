/- A map of the call's own with bool elements that is used as a set: looked up, written, counted. No conditions but that a key is new where it is written. -/
import Derived.WalkKit
import Derived.ProofKit
import Derived.Maps.OwnSet
import Derived.DeepKeys5
import Derived.Test.YtjdoegekolbdpaaDoorMem
namespace Go.Proofs.YtjdoegekolbdpaaDoor
open Go.ChangeShapes Go.WideShapes Go.ChangeAt Go.RowKit
open Go.Maps (Keyed)
section
variable {P : Program} {k e t : TypeId}
/-- block b is a map whose keys (all of them at true) are those of S, each once -/
def SetM (P : Program) (k e : TypeId) (w : World) (b : Nat) (S : List Value) : Prop :=
  ∃ D : DataW Unit, w.ownsMap P k (plainElem P e) b S.length D ∧ Maps.size D = S.length ∧ ∀ key kl, keyOf P k key = some kl → (key ∈ S → D.atKey kl (.lit (.bool false)) = .lit (.bool true)) ∧ (key ∉ S → Maps.has D kl = false)
theorem SetM.made (w : World) : SetM P k e (w.alloc (.map #[] 0)) w.heap.size [] :=
  ⟨.map [], World.ownsMap_made w P k _, rfl, fun key kl _ => ⟨fun h => by simp at h, fun _ => rfl⟩⟩
theorem SetM.lt {w : World} {b : Nat} {S : List Value} (h : SetM P k e w b S) : b < w.heap.size := by obtain ⟨D, h1, _⟩ := h; exact h1.lt
theorem SetM.keep {w w' : World} {b : Nat} {S : List Value} (h : SetM P k e w b S) (hb : w'.heap[b]? = w.heap[b]?) : SetM P k e w' b S := by
  obtain ⟨D, ⟨es, clock, h1, h2⟩, h3⟩ := h
  exact ⟨D, ⟨es, clock, hb.trans h1, h2⟩, h3⟩
theorem SetM.below {w w' : World} {b : Nat} {S : List Value} (h : SetM P k e w b S) (hb : Below w.heap.size w w') : SetM P k e w' b S := h.keep (hb.block b h.lt)
theorem SetM.alloc {w : World} {b : Nat} {S : List Value} (h : SetM P k e w b S) (o : Obj) : SetM P k e (w.alloc o) b S := h.below (Joins.below_alloc1 _ _)
theorem SetM.drewN {w : World} {b : Nat} {S : List Value} (h : SetM P k e w b S) (n : Nat) : SetM P k e (w.drewN n) b S := h
theorem SetM.drew {w : World} {b : Nat} {S : List Value} (h : SetM P k e w b S) : SetM P k e w.drew b S := h
theorem SetM.set_ {w : World} {b : Nat} {S : List Value} (h : SetM P k e w b S) {p : Addr} (hp : b ≠ p.block) (u : Value) : SetM P k e (w.setCell p u) b S := h.keep (Below.heap_setCell _ _ _ _ hp)
theorem SetM.grown {w w' : World} {b : Nat} {S : List Value} (h : SetM P k e w b S) {row : Option Nat} (hg : w.grownBy w' row) (hn : some b ≠ row) : SetM P k e w' b S := h.keep (hg.block b h.lt hn)

theorem wpList_lookup_set {w : World} {ops : Array Oper} {rest : List Oper} {o : Oper} {a : Act} {Q : Exit → Act → World → Prop}
    (hg : o.guard = none) (m x : Operand) (hop : o.op = Op.lookup t m x false) (K : Keyed P k) (ht : P.underlying t = some (.map k e)) (he : P.underlying e = some .bool) (hz : (zeroValue e).run P w = .ok (.bool false) w)
    (b : Nat) (S : List Value) (hm : a.eval m = .map (some b)) (hs : SetM P k e w b S) (key : Value) (hx : a.eval x = key) (kl : Lit) (hkey : keyOf P k key = some kl) (r : Bool) (hr : r = true ↔ key ∈ S)
    (hK : wpList P ops Q rest (a.put o.dst (.bool r)) w) : wpList P ops Q (o :: rest) a w := by
  refine wpList_plain hg fun K' hK' => ?_
  obtain ⟨D, hown, _, hat⟩ := hs
  obtain ⟨v, ps, hrun, hv⟩ := hown.lookup K ht hz (plainElem_bool he false) hkey
  have hv' : v = .bool r := by
    have hd : D.atKey kl (.lit (.bool false)) = .lit (.bool r) := by
      cases r
      · exact Maps.atKey_of_not_has ((hat key kl hkey).2 (fun h => by have := hr.2 h; cases this)) _
      · exact (hat key kl hkey).1 (hr.1 rfl)
    rw [hd] at hv
    unfold plainElem at hv
    rw [he] at hv
    cases v <;> simp at hv
    rw [hv.1]
  subst hv'
  unfold Oper.wp
  simp [execOp, hop, hm, hx, hrun, Result.andThen]
  exact hK' _ _ hK

theorem SetM.look {w : World} {b : Nat} {S : List Value} (hs : SetM P k e w b S) (K : Keyed P k) (ht : P.underlying t = some (.map k e)) (he : P.underlying e = some .bool) (hz : (zeroValue e).run P w = .ok (.bool false) w)
    (key : Value) (kl : Lit) (hkey : keyOf P k key = some kl) (r : Bool) (hr : r = true ↔ key ∈ S) : (Instr.lookup t (.map (some b)) key false).run P w = .ok (.bool r) w := by
  obtain ⟨D, hown, _, hat⟩ := hs
  obtain ⟨v, ps, hrun, hv⟩ := hown.lookup K ht hz (plainElem_bool he false) hkey
  have hv' : v = .bool r := by
    have hd : D.atKey kl (.lit (.bool false)) = .lit (.bool r) := by
      cases r
      · exact Maps.atKey_of_not_has ((hat key kl hkey).2 (fun h => by have := hr.2 h; cases this)) _
      · exact (hat key kl hkey).1 (hr.1 rfl)
    rw [hd] at hv
    unfold plainElem at hv
    rw [he] at hv
    cases v <;> simp at hv
    rw [hv.1]
  subst hv'
  exact hrun
theorem wpList_update_set {w : World} {ops : Array Oper} {rest : List Oper} {o : Oper} {a : Act} {Q : Exit → Act → World → Prop}
    (hg : o.guard = none) (m x v : Operand) (hop : o.op = Op.mapUpdate t m x v) (K : Keyed P k) (ht : P.underlying t = some (.map k e)) (he : P.underlying e = some .bool)
    (b : Nat) (S : List Value) (hm : a.eval m = .map (some b)) (hs : SetM P k e w b S) (hn : S.length < maxLen) (key : Value) (hx : a.eval x = key) (hv : a.eval v = .bool true) (kl : Lit) (hkey : keyOf P k key = some kl) (hnew : key ∉ S)
    (hK : ∀ w', SetM P k e w' b (key :: S) → w.grownBy w' (some b) → wpList P ops Q rest (a.put o.dst undef) w') : wpList P ops Q (o :: rest) a w := by
  obtain ⟨D, hown, hsz, hat⟩ := hs
  refine wpList_mapUpdate_own w hg m x v t hop k e K ht (plainElem P e) b S.length D hm hown hn key (.bool true) kl hx hv hkey (.lit (.bool true)) [] (plainElem_bool he true) ?_
  intro w' hown' hgrow
  refine hK w' ⟨D.put kl (.lit (.bool true)), hown', ?_, ?_⟩ hgrow
  · rw [Maps.size_put (hown.tidy K), (hat key kl hkey).2 hnew, hsz]; rfl
  · intro key' kl' hkey'
    by_cases hne : kl' = kl
    · subst hne
      have hk := K.inj hkey hkey'
      subst hk
      exact ⟨fun _ => Maps.atKey_put_same hown.isMap (K.key hkey) _ _, fun h => absurd (List.mem_cons_self) h⟩
    · have hk : key' ≠ key := fun h => hne (by subst h; rw [hkey] at hkey'; cases hkey'; rfl)
      refine ⟨fun h => ?_, fun h => ?_⟩
      · rw [Maps.atKey_put_other hne]
        exact (hat key' kl' hkey').1 ((List.mem_cons.1 h).resolve_left hk)
      · rw [Maps.has_put_other hne]
        exact (hat key' kl' hkey').2 (fun h' => h (List.mem_cons_of_mem _ h'))

theorem wpList_len_set {w : World} {ops : Array Oper} {rest : List Oper} {o : Oper} {a : Act} {Q : Exit → Act → World → Prop}
    (hg : o.guard = none) (m : Operand) (hop : o.op = Op.call { callee := Callee.builtin Builtin.len, args := #[m], argTypes := #[t] }) (ht : P.underlying t = some (.map k e))
    (b : Nat) (S : List Value) (hm : a.eval m = .map (some b)) (hs : SetM P k e w b S)
    (hK : wpList P ops Q rest (a.put o.dst (.int .i64 (S.length : Int))) w) : wpList P ops Q (o :: rest) a w := by
  obtain ⟨D, hown, hsz, _⟩ := hs
  exact Go.wpList_len_own w hg m t hop k e ht (plainElem P e) b S.length D hm hown (by rw [hsz]; exact hK)
end
end Go.Proofs.YtjdoegekolbdpaaDoor
