/-
  What the package variables of codec and cpu hold. Conditions: as typed.
-/
import Derived.Test.YtppankimieopiaaDoorFd
import Derived.Test.YtppankimieopiaaDoorRows
namespace Go.Proofs.YtppankimieopiaaDoor
open Go.Ep Go.RowKit Go.ChangeShapes Go.WideShapes Go.WideElems
set_option linter.unusedVariables false
set_option linter.unusedSimpArgs false

/-! ### Parts of a world -/
def and2 (G1 G2 : World → Prop) : World → Prop := fun w => G1 w ∧ G2 w
def or2 (D1 D2 : VData) : VData := ⟨fun T g off => match D1.glob T g off with | some v => some v | none => D2.glob T g off, fun T ok g b k => match D1.look T ok g b k with | some v => some v | none => D2.look T ok g b k⟩
theorem ok2 {P : Program} {G1 G2 : World → Prop} {D1 D2 : VData} (h1 : DataOK P G1 D1) (h2 : DataOK P G2 D2) : DataOK P (and2 G1 G2) (or2 D1 D2) := by
  refine ⟨fun w w' h hb => ⟨h1.stable w w' h.1 hb, h2.stable w w' h.2 hb⟩, fun T g off v h => ?_, fun T ok g b key c v h hc => ?_⟩
  · simp only [or2] at h
    split at h
    · rename_i v' hv
      obtain rfl := Option.some.inj h
      obtain ⟨e1, e2⟩ := h1.globs T g off _ hv
      exact ⟨e1, fun w hw => e2 w hw.1⟩
    · obtain ⟨e1, e2⟩ := h2.globs T g off _ h
      exact ⟨e1, fun w hw => e2 w hw.2⟩
  · simp only [or2] at h
    split at h
    · rename_i v' hv
      obtain rfl := Option.some.inj h
      obtain ⟨e1, e2⟩ := h1.looks T ok g b key c _ hv hc
      exact ⟨e1, fun w hw => e2 w hw.1⟩
    · obtain ⟨e1, e2⟩ := h2.looks T ok g b key c _ h hc
      exact ⟨e1, fun w hw => e2 w hw.2⟩
theorem elem_cells {P : Program} {d : Nat} {e : TypeId} {l : List Leaf} (hf : flat P d e = some l) {W : World} {n : Nat} {v : Value} {y : DataW Unit × List MemPlace} (h : elemU P W n e v = some y) : flatC d y.1 = v.cells.toList ∧ v.formed P e = true := by
  unfold elemU elemAt at h
  split at h
  · rename_i h0
    exact ⟨(flat_data d _ e l v.cells.toList y hf h).1, h0⟩
  · cases h
theorem key64 (x : BitVec 64) : keyOf Tryd.prog 3 (.int .i64 x.toInt) = some (.int .i64 x.toInt) := by
  have h1 := x.isLt
  refine Maps.keyOf_int_mk Tryd.underlying3 ?_
  have h2 := BitVec.toInt_lt (x := x)
  have h3 := BitVec.le_toInt (x := x)
  simp [Lit.wf, IntKind.min, IntKind.max, IntKind.bits, IntKind.signed] at *
  omega
def rho0 : Nat → Go.Ep.Loc := fun _ => ⟨0, 0, 0⟩
/-- A map of numbers: one part of a world. -/
def PM (T g : Nat) (b : Nat) (two : Bool) (V : BitVec 64 → L) (H : BitVec 64 → Bool) : VData where
  glob := fun T' g' off => match off with
    | 0 => match Nat.beq T' T, Nat.beq g' g with
      | true, true => some (.one (.gmap g b))
      | _, _ => none
    | _ => none
  look := fun T' ok g' b' key => match key with
    | .one (.b64 true x) => match Nat.beq T' T, Nat.beq g' g with
      | true, true => match ok with
        | true => some (.p (b' = b), .tup [(false, [V x]), (false, [.bool (H x)])])
        | false => some (.p (b' = b), .one (V x))
      | _, _ => none
    | _ => none
theorem PM_ok {T g b e : Nat} {two : Bool} {V : BitVec 64 → L} {H : BitVec 64 → Bool} {D : DataW Unit} (hT : Tryd.prog.underlying T = some (.map 3 e)) (hA : isAggT Tryd.prog T = some false) (hVn : ∀ x, (V x).names = [])
    (hV : ∀ x w, MapIs Tryd.prog 3 e D w g b → ∀ ok, (Instr.lookup T (.map (some b)) (.int .i64 x.toInt) ok).run Tryd.prog w = .ok (if ok then .tuple #[gL rho0 (V x), .bool (H x)] else gL rho0 (V x)) w) :
    DataOK Tryd.prog (fun w => MapIs Tryd.prog 3 e D w g b) (PM T g b two V H) := by
  have hrel : ∀ x ρ, RelL ρ (V x) (gL rho0 (V x)) := fun x ρ => relL_agree (ρ := rho0) (fun _ => rfl) (by rw [hVn]; simp)
  refine ⟨fun w w' h hb => h.later hb, fun T' g' off v h => ?_, fun T' ok g' b' key c v h hc => ?_⟩
  · simp only [PM] at h
    split at h
    · split at h
      · rename_i h1 h2
        obtain rfl : T' = T := by simpa using h1
        obtain rfl : g' = g := by simpa using h2
        obtain rfl := Option.some.inj h
        exact ⟨rfl, fun w hw => ⟨_, hw.load hA, fun ρ _ => rfl⟩⟩
      · cases h
    · cases h
  · simp only [PM] at h
    split at h
    · rename_i x
      split at h
      · rename_i h1 h2
        obtain rfl : T' = T := by simpa using h1
        obtain rfl : g' = g := by simpa using h2
        cases ok with
        | true =>
          obtain ⟨rfl, rfl⟩ : _ ∧ _ := by simpa using h
          obtain rfl : b' = b := hc
          refine ⟨by show (V x).names ++ [] ++ _ = []; rw [hVn]; rfl, fun w hw ρ k hk => ?_⟩
          obtain rfl := hk (by simp)
          exact ⟨_, hV x w hw true, _, rfl, hrel x ρ, fun _ => rfl, trivial⟩
        | false =>
          obtain ⟨rfl, rfl⟩ : _ ∧ _ := by simpa using h
          obtain rfl : b' = b := hc
          refine ⟨by simp [AV.names, hVn], fun w hw ρ k hk => ?_⟩
          obtain rfl := hk (by simp)
          exact ⟨_, hV x w hw false, hrel x ρ⟩
      · cases h
    · cases h

def ldH (x : BitVec 64) : Bool := x == 1#64 || x == 2#64 || x == 4#64 || x == 8#64
def ldV (x : BitVec 64) : ByteArray := if x == 1#64 then ⟨⟨[15, 182]⟩⟩ else if x == 2#64 then ⟨⟨[15, 183]⟩⟩ else if x == 4#64 then ⟨⟨[139]⟩⟩ else if x == 8#64 then ⟨⟨[139]⟩⟩ else ⟨⟨[]⟩⟩
theorem at_ld (x : BitVec 64) (zd : DataW Unit) : (Rows.laid_firewall_codec_loads : DataW Unit).atKey (.int .i64 x.toInt) zd = if ldH x then .lit (.string (ldV x).data.toList) else zd := by
  by_cases h0 : x = 1#64
  · subst h0; rfl
  by_cases h1 : x = 2#64
  · subst h1; rfl
  by_cases h2 : x = 4#64
  · subst h2; rfl
  by_cases h3 : x = 8#64
  · subst h3; rfl
  have e : ldH x = false := by simp [ldH, h0, h1, h2, h3]
  rw [e]
  have k0 : ¬ ((1 : Int) = x.toInt) := fun e => h0 (BitVec.eq_of_toInt_eq e.symm)
  have k1 : ¬ ((2 : Int) = x.toInt) := fun e => h1 (BitVec.eq_of_toInt_eq e.symm)
  have k2 : ¬ ((4 : Int) = x.toInt) := fun e => h2 (BitVec.eq_of_toInt_eq e.symm)
  have k3 : ¬ ((8 : Int) = x.toInt) := fun e => h3 (BitVec.eq_of_toInt_eq e.symm)
  simp [Rows.laid_firewall_codec_loads, DataW.atKey, Lit.sameKey, k0, k1, k2, k3]
theorem no_ld (x : BitVec 64) (h : ldH x = false) : ldV x = ⟨⟨[]⟩⟩ := by
  simp only [ldH, Bool.or_eq_false_iff] at h
  simp only [ldV, h]
  rfl
theorem look_ld {g b : Nat} (x : BitVec 64) (w : World) (hw : MapIs Tryd.prog 3 9 Rows.laid_firewall_codec_loads w g b) (ok : Bool) :
    (Instr.lookup 95 (.map (some b)) (.int .i64 x.toInt) ok).run Tryd.prog w = .ok (if ok then .tuple #[.string (ldV x), .bool (ldH x)] else .string (ldV x)) w := by
  have hz : (zeroValue 9).run Tryd.prog w = .ok (.string ⟨⟨[]⟩⟩) w := by kernel_rfl
  rcases hw.look (Maps.int_keyed Tryd.underlying3) Tryd.underlying95 hz ok (key64 x) with ⟨h3, h4⟩ | ⟨v, y, n, W, h3, h4, h5⟩
  · have e := h4 .nil
    rw [at_ld] at e
    have hh : ldH x = false := by
      cases hs : ldH x with
      | false => rfl
      | true => rw [hs] at e; cases e
    rw [no_ld x hh, hh]; exact h3
  · have e := h5 .nil
    rw [at_ld] at e
    obtain ⟨e1, e2⟩ := elem_cells (d := 2) (l := [.str]) (by kernel_rfl) h4
    have hh : ldH x = true := by
      cases hs : ldH x with
      | true => rfl
      | false =>
        rw [hs] at e
        rw [← show DataW.nil = y.1 from e] at e1
        cases v <;> simp [flatC, Value.cells] at e1
        all_goals simp [Value.formed, Tryd.underlying9] at e2
    rw [hh] at e
    have e3 : y.1 = .lit (.string (ldV x).data.toList) := e.symm
    rw [e3] at e1
    have e4 : v = .string (ldV x) := by
      cases v <;> simp [flatC, Value.cells] at e1
      all_goals first | (simp [Value.formed, Tryd.underlying9] at e2; done) | (rw [← e1]; done) | simp [e1]
    rw [hh, ← e4]; exact h3
def Dld (m : Nat → Nat) : VData := PM 95 2 (m 2) true (fun x => .str (ldV x)) ldH
def Gld (m : Nat → Nat) : World → Prop := fun w => MapIs Tryd.prog 3 9 Rows.laid_firewall_codec_loads w 2 (m 2)
theorem Dld_ok (m : Nat → Nat) : DataOK Tryd.prog (Gld m) (Dld m) := PM_ok Tryd.underlying95 (by kernel_rfl) (fun _ => rfl) (fun x w hw ok => look_ld x w hw ok)

def stqH (x : BitVec 64) : Bool := x == 1#64 || x == 2#64 || x == 4#64 || x == 8#64
def stqV (x : BitVec 64) : ByteArray := if x == 1#64 then ⟨⟨[136]⟩⟩ else if x == 2#64 then ⟨⟨[137]⟩⟩ else if x == 4#64 then ⟨⟨[137]⟩⟩ else if x == 8#64 then ⟨⟨[137]⟩⟩ else ⟨⟨[]⟩⟩
theorem at_stq (x : BitVec 64) (zd : DataW Unit) : (Rows.laid_firewall_codec_stores : DataW Unit).atKey (.int .i64 x.toInt) zd = if stqH x then .lit (.string (stqV x).data.toList) else zd := by
  by_cases h0 : x = 1#64
  · subst h0; rfl
  by_cases h1 : x = 2#64
  · subst h1; rfl
  by_cases h2 : x = 4#64
  · subst h2; rfl
  by_cases h3 : x = 8#64
  · subst h3; rfl
  have e : stqH x = false := by simp [stqH, h0, h1, h2, h3]
  rw [e]
  have k0 : ¬ ((1 : Int) = x.toInt) := fun e => h0 (BitVec.eq_of_toInt_eq e.symm)
  have k1 : ¬ ((2 : Int) = x.toInt) := fun e => h1 (BitVec.eq_of_toInt_eq e.symm)
  have k2 : ¬ ((4 : Int) = x.toInt) := fun e => h2 (BitVec.eq_of_toInt_eq e.symm)
  have k3 : ¬ ((8 : Int) = x.toInt) := fun e => h3 (BitVec.eq_of_toInt_eq e.symm)
  simp [Rows.laid_firewall_codec_stores, DataW.atKey, Lit.sameKey, k0, k1, k2, k3]
theorem no_stq (x : BitVec 64) (h : stqH x = false) : stqV x = ⟨⟨[]⟩⟩ := by
  simp only [stqH, Bool.or_eq_false_iff] at h
  simp only [stqV, h]
  rfl
theorem look_stq {g b : Nat} (x : BitVec 64) (w : World) (hw : MapIs Tryd.prog 3 9 Rows.laid_firewall_codec_stores w g b) (ok : Bool) :
    (Instr.lookup 95 (.map (some b)) (.int .i64 x.toInt) ok).run Tryd.prog w = .ok (if ok then .tuple #[.string (stqV x), .bool (stqH x)] else .string (stqV x)) w := by
  have hz : (zeroValue 9).run Tryd.prog w = .ok (.string ⟨⟨[]⟩⟩) w := by kernel_rfl
  rcases hw.look (Maps.int_keyed Tryd.underlying3) Tryd.underlying95 hz ok (key64 x) with ⟨h3, h4⟩ | ⟨v, y, n, W, h3, h4, h5⟩
  · have e := h4 .nil
    rw [at_stq] at e
    have hh : stqH x = false := by
      cases hs : stqH x with
      | false => rfl
      | true => rw [hs] at e; cases e
    rw [no_stq x hh, hh]; exact h3
  · have e := h5 .nil
    rw [at_stq] at e
    obtain ⟨e1, e2⟩ := elem_cells (d := 2) (l := [.str]) (by kernel_rfl) h4
    have hh : stqH x = true := by
      cases hs : stqH x with
      | true => rfl
      | false =>
        rw [hs] at e
        rw [← show DataW.nil = y.1 from e] at e1
        cases v <;> simp [flatC, Value.cells] at e1
        all_goals simp [Value.formed, Tryd.underlying9] at e2
    rw [hh] at e
    have e3 : y.1 = .lit (.string (stqV x).data.toList) := e.symm
    rw [e3] at e1
    have e4 : v = .string (stqV x) := by
      cases v <;> simp [flatC, Value.cells] at e1
      all_goals first | (simp [Value.formed, Tryd.underlying9] at e2; done) | (rw [← e1]; done) | simp [e1]
    rw [hh, ← e4]; exact h3
def Dstq (m : Nat → Nat) : VData := PM 95 7 (m 7) true (fun x => .str (stqV x)) stqH
def Gstq (m : Nat → Nat) : World → Prop := fun w => MapIs Tryd.prog 3 9 Rows.laid_firewall_codec_stores w 7 (m 7)
theorem Dstq_ok (m : Nat → Nat) : DataOK Tryd.prog (Gstq m) (Dstq m) := PM_ok Tryd.underlying95 (by kernel_rfl) (fun _ => rfl) (fun x w hw ok => look_stq x w hw ok)

def dzH (x : BitVec 64) : Bool := x == 0#64 || x == 1#64 || x == 4#64 || x == 5#64 || x == 6#64 || x == 7#64
def dzV (x : BitVec 64) : BitVec 8 := if x == 0#64 then 0#8 else if x == 1#64 then 64#8 else if x == 4#64 then 80#8 else if x == 5#64 then 16#8 else if x == 6#64 then 160#8 else if x == 7#64 then 16#8 else 0#8
theorem at_dz (x : BitVec 64) (zd : DataW Unit) : (Rows.laid_firewall_cpu_does : DataW Unit).atKey (.int .i64 x.toInt) zd = if dzH x then .lit (.int .u8 ((dzV x).toNat : Int)) else zd := by
  by_cases h0 : x = 0#64
  · subst h0; rfl
  by_cases h1 : x = 1#64
  · subst h1; rfl
  by_cases h2 : x = 4#64
  · subst h2; rfl
  by_cases h3 : x = 5#64
  · subst h3; rfl
  by_cases h4 : x = 6#64
  · subst h4; rfl
  by_cases h5 : x = 7#64
  · subst h5; rfl
  have e : dzH x = false := by simp [dzH, h0, h1, h2, h3, h4, h5]
  rw [e]
  have k0 : ¬ ((0 : Int) = x.toInt) := fun e => h0 (BitVec.eq_of_toInt_eq e.symm)
  have k1 : ¬ ((1 : Int) = x.toInt) := fun e => h1 (BitVec.eq_of_toInt_eq e.symm)
  have k2 : ¬ ((4 : Int) = x.toInt) := fun e => h2 (BitVec.eq_of_toInt_eq e.symm)
  have k3 : ¬ ((5 : Int) = x.toInt) := fun e => h3 (BitVec.eq_of_toInt_eq e.symm)
  have k4 : ¬ ((6 : Int) = x.toInt) := fun e => h4 (BitVec.eq_of_toInt_eq e.symm)
  have k5 : ¬ ((7 : Int) = x.toInt) := fun e => h5 (BitVec.eq_of_toInt_eq e.symm)
  simp [Rows.laid_firewall_cpu_does, DataW.atKey, Lit.sameKey, k0, k1, k2, k3, k4, k5]
theorem no_dz (x : BitVec 64) (h : dzH x = false) : dzV x = 0#8 := by
  simp only [dzH, Bool.or_eq_false_iff] at h
  simp only [dzV, h]
  rfl
theorem look_dz {g b : Nat} (x : BitVec 64) (w : World) (hw : MapIs Tryd.prog 3 5 Rows.laid_firewall_cpu_does w g b) (ok : Bool) :
    (Instr.lookup 65 (.map (some b)) (.int .i64 x.toInt) ok).run Tryd.prog w = .ok (if ok then .tuple #[.int .u8 ((dzV x).toNat : Int), .bool (dzH x)] else .int .u8 ((dzV x).toNat : Int)) w := by
  have hz : (zeroValue 5).run Tryd.prog w = .ok (.int .u8 0) w := by kernel_rfl
  rcases hw.look (Maps.int_keyed Tryd.underlying3) Tryd.underlying65 hz ok (key64 x) with ⟨h3, h4⟩ | ⟨v, y, n, W, h3, h4, h5⟩
  · have e := h4 .nil
    rw [at_dz] at e
    have hh : dzH x = false := by
      cases hs : dzH x with
      | false => rfl
      | true => rw [hs] at e; cases e
    rw [no_dz x hh, hh]; exact h3
  · have e := h5 .nil
    rw [at_dz] at e
    obtain ⟨e1, e2⟩ := elem_cells (d := 2) (l := [.int .u8]) (by kernel_rfl) h4
    have hh : dzH x = true := by
      cases hs : dzH x with
      | true => rfl
      | false =>
        rw [hs] at e
        rw [← show DataW.nil = y.1 from e] at e1
        cases v <;> simp [flatC, Value.cells] at e1
        all_goals simp [Value.formed, Tryd.underlying5] at e2
    rw [hh] at e
    have e3 : y.1 = .lit (.int .u8 ((dzV x).toNat : Int)) := e.symm
    rw [e3] at e1
    have e4 : v = .int .u8 ((dzV x).toNat : Int) := by
      cases v <;> simp [flatC, Value.cells] at e1
      all_goals first | (simp [Value.formed, Tryd.underlying5] at e2; done) | (rw [← e1]; done) | simp [e1]
    rw [hh, ← e4]; exact h3
def Ddz (m : Nat → Nat) : VData := PM 65 6 (m 6) true (fun x => .b8 false (dzV x)) dzH
def Gdz (m : Nat → Nat) : World → Prop := fun w => MapIs Tryd.prog 3 5 Rows.laid_firewall_cpu_does w 6 (m 6)
theorem Ddz_ok (m : Nat → Nat) : DataOK Tryd.prog (Gdz m) (Ddz m) := PM_ok Tryd.underlying65 (by kernel_rfl) (fun _ => rfl) (fun x w hw ok => look_dz x w hw ok)

def sfH (x : BitVec 64) : Bool := x == 4#64 || x == 5#64 || x == 7#64
def sfV (x : BitVec 64) : BitVec 8 := if x == 4#64 then 96#8 else if x == 5#64 then 112#8 else if x == 7#64 then 192#8 else 0#8
theorem at_sf (x : BitVec 64) (zd : DataW Unit) : (Rows.laid_firewall_cpu_shifts : DataW Unit).atKey (.int .i64 x.toInt) zd = if sfH x then .lit (.int .u8 ((sfV x).toNat : Int)) else zd := by
  by_cases h0 : x = 4#64
  · subst h0; rfl
  by_cases h1 : x = 5#64
  · subst h1; rfl
  by_cases h2 : x = 7#64
  · subst h2; rfl
  have e : sfH x = false := by simp [sfH, h0, h1, h2]
  rw [e]
  have k0 : ¬ ((4 : Int) = x.toInt) := fun e => h0 (BitVec.eq_of_toInt_eq e.symm)
  have k1 : ¬ ((5 : Int) = x.toInt) := fun e => h1 (BitVec.eq_of_toInt_eq e.symm)
  have k2 : ¬ ((7 : Int) = x.toInt) := fun e => h2 (BitVec.eq_of_toInt_eq e.symm)
  simp [Rows.laid_firewall_cpu_shifts, DataW.atKey, Lit.sameKey, k0, k1, k2]
theorem no_sf (x : BitVec 64) (h : sfH x = false) : sfV x = 0#8 := by
  simp only [sfH, Bool.or_eq_false_iff] at h
  simp only [sfV, h]
  rfl
theorem look_sf {g b : Nat} (x : BitVec 64) (w : World) (hw : MapIs Tryd.prog 3 5 Rows.laid_firewall_cpu_shifts w g b) (ok : Bool) :
    (Instr.lookup 65 (.map (some b)) (.int .i64 x.toInt) ok).run Tryd.prog w = .ok (if ok then .tuple #[.int .u8 ((sfV x).toNat : Int), .bool (sfH x)] else .int .u8 ((sfV x).toNat : Int)) w := by
  have hz : (zeroValue 5).run Tryd.prog w = .ok (.int .u8 0) w := by kernel_rfl
  rcases hw.look (Maps.int_keyed Tryd.underlying3) Tryd.underlying65 hz ok (key64 x) with ⟨h3, h4⟩ | ⟨v, y, n, W, h3, h4, h5⟩
  · have e := h4 .nil
    rw [at_sf] at e
    have hh : sfH x = false := by
      cases hs : sfH x with
      | false => rfl
      | true => rw [hs] at e; cases e
    rw [no_sf x hh, hh]; exact h3
  · have e := h5 .nil
    rw [at_sf] at e
    obtain ⟨e1, e2⟩ := elem_cells (d := 2) (l := [.int .u8]) (by kernel_rfl) h4
    have hh : sfH x = true := by
      cases hs : sfH x with
      | true => rfl
      | false =>
        rw [hs] at e
        rw [← show DataW.nil = y.1 from e] at e1
        cases v <;> simp [flatC, Value.cells] at e1
        all_goals simp [Value.formed, Tryd.underlying5] at e2
    rw [hh] at e
    have e3 : y.1 = .lit (.int .u8 ((sfV x).toNat : Int)) := e.symm
    rw [e3] at e1
    have e4 : v = .int .u8 ((sfV x).toNat : Int) := by
      cases v <;> simp [flatC, Value.cells] at e1
      all_goals first | (simp [Value.formed, Tryd.underlying5] at e2; done) | (rw [← e1]; done) | simp [e1]
    rw [hh, ← e4]; exact h3
def Dsf (m : Nat → Nat) : VData := PM 65 0 (m 0) true (fun x => .b8 false (sfV x)) sfH
def Gsf (m : Nat → Nat) : World → Prop := fun w => MapIs Tryd.prog 3 5 Rows.laid_firewall_cpu_shifts w 0 (m 0)
theorem Dsf_ok (m : Nat → Nat) : DataOK Tryd.prog (Gsf m) (Dsf m) := PM_ok Tryd.underlying65 (by kernel_rfl) (fun _ => rfl) (fun x w hw ok => look_sf x w hw ok)

/-! ### The forms, and the conditions -/
def formT : List (Nat × List L) := [(0, [.str ⟨⟨[]⟩⟩, .b64 true 0#64, .b64 true 0#64, .b64 true 0#64, .b64 true 0#64, .bool false, .bool false]), (7, [.str ⟨⟨[137]⟩⟩, .b64 true 1#64, .b64 true 0#64, .b64 true 0#64, .b64 true 0#64, .bool false, .bool false]), (14, [.str ⟨⟨[199]⟩⟩, .b64 true 3#64, .b64 true 0#64, .b64 true 0#64, .b64 true 4#64, .bool true, .bool false]), (21, [.str ⟨⟨[184]⟩⟩, .b64 true 4#64, .b64 true 0#64, .b64 true 0#64, .b64 true 8#64, .bool true, .bool false]), (28, [.str ⟨⟨[1]⟩⟩, .b64 true 1#64, .b64 true 0#64, .b64 true 1#64, .b64 true 0#64, .bool false, .bool false]), (35, [.str ⟨⟨[129]⟩⟩, .b64 true 3#64, .b64 true 0#64, .b64 true 1#64, .b64 true 4#64, .bool false, .bool false]), (42, [.str ⟨⟨[133]⟩⟩, .b64 true 1#64, .b64 true 0#64, .b64 true 0#64, .b64 true 0#64, .bool false, .bool false]), (49, [.str ⟨⟨[247]⟩⟩, .b64 true 3#64, .b64 true 3#64, .b64 true 0#64, .b64 true 0#64, .bool false, .bool false]), (56, [.str ⟨⟨[247]⟩⟩, .b64 true 3#64, .b64 true 4#64, .b64 true 0#64, .b64 true 0#64, .bool false, .bool false]), (63, [.str ⟨⟨[247]⟩⟩, .b64 true 3#64, .b64 true 6#64, .b64 true 0#64, .b64 true 0#64, .bool false, .bool false]), (70, [.str ⟨⟨[15, 175]⟩⟩, .b64 true 2#64, .b64 true 0#64, .b64 true 0#64, .b64 true 0#64, .bool false, .bool false]), (77, [.str ⟨⟨[193]⟩⟩, .b64 true 3#64, .b64 true 0#64, .b64 true 2#64, .b64 true 1#64, .bool false, .bool false]), (84, [.str ⟨⟨[211]⟩⟩, .b64 true 3#64, .b64 true 0#64, .b64 true 2#64, .b64 true 0#64, .bool false, .bool false]), (91, [.str ⟨⟨[]⟩⟩, .b64 true 5#64, .b64 true 0#64, .b64 true 0#64, .b64 true 0#64, .bool false, .bool false]), (98, [.str ⟨⟨[]⟩⟩, .b64 true 6#64, .b64 true 0#64, .b64 true 0#64, .b64 true 0#64, .bool false, .bool false]), (105, [.str ⟨⟨[]⟩⟩, .b64 true 7#64, .b64 true 0#64, .b64 true 0#64, .b64 true 0#64, .bool false, .bool true]), (112, [.str ⟨⟨[]⟩⟩, .b64 true 7#64, .b64 true 0#64, .b64 true 0#64, .b64 true 0#64, .bool false, .bool true]), (119, [.str ⟨⟨[80]⟩⟩, .b64 true 4#64, .b64 true 0#64, .b64 true 0#64, .b64 true 0#64, .bool false, .bool true]), (126, [.str ⟨⟨[88]⟩⟩, .b64 true 4#64, .b64 true 0#64, .b64 true 0#64, .b64 true 0#64, .bool false, .bool true]), (133, [.str ⟨⟨[195]⟩⟩, .b64 true 0#64, .b64 true 0#64, .b64 true 0#64, .b64 true 0#64, .bool false, .bool true]), (140, [.str ⟨⟨[232]⟩⟩, .b64 true 7#64, .b64 true 0#64, .b64 true 0#64, .b64 true 0#64, .bool false, .bool true]), (147, [.str ⟨⟨[15, 174, 232]⟩⟩, .b64 true 0#64, .b64 true 0#64, .b64 true 0#64, .b64 true 0#64, .bool false, .bool true])]
def rowOf : List (Nat × List L) → Nat → Option (List L)
  | [], _ => none
  | (j, l) :: r, i => match Nat.beq j i with
    | true => some l
    | false => rowOf r i
def Gfm : World → Prop := fun w => 1 < w.heap.size ∧ ∀ j, j < (flatC 8 (Rows.laid_firewall_codec_forms : DataW Unit)).length → w.cell? ⟨1, j, none⟩ = (flatC 8 (Rows.laid_firewall_codec_forms : DataW Unit))[j]?
def Dfm : VData where
  glob := fun T g off => match Nat.beq T 81, Nat.beq g 1 with
    | true, true => match rowOf formT off with
      | some l => some (.agg l)
      | none => none
    | _, _ => none
  look := fun _ _ _ _ _ => none
theorem rowOf_mem : ∀ {l : List (Nat × List L)} {i : Nat} {r : List L}, rowOf l i = some r → (i, r) ∈ l
  | [], _, _, h => by simp [rowOf] at h
  | (j, l) :: r, i, x, h => by
    simp only [rowOf] at h
    split at h
    · rename_i he
      have he' : j = i := by simpa using he
      subst he'
      obtain rfl := Option.some.inj h
      exact List.mem_cons_self
    · exact List.mem_cons_of_mem _ (rowOf_mem h)
theorem glob_agg {P : Program} {w : World} {g T off : Nat} {inf : TypeInfo} (hi : P.info? T = some inf) (hA : isAggT P T = some true) (vs : List Value) (hn : vs.length = inf.size)
    (hc : ∀ j v, vs[j]? = some v → w.cell? ⟨g, off + j, none⟩ = some v) : (loadVar T ⟨g, off, none⟩).run P w = .ok (.agg vs.toArray) w := by
  have hl' := run_loadCells_list (P := P) w ⟨g, off, none⟩ vs (fun j v hv => by rw [addr_add]; exact hc j v hv)
  rw [hn] at hl'
  simp [loadVar, isAgg_run hA, sizeOf_run hi, hl']
theorem formT_ok : ∀ p ∈ formT, p.2 = mapLeaf (((flatC 8 (Rows.laid_firewall_codec_forms : DataW Unit)).drop p.1).take 7) ∧ p.1 + 7 ≤ 154 ∧ lnames p.2 = [] := by
  intro p hp
  simp only [formT, List.mem_cons, List.not_mem_nil, or_false] at hp
  rcases hp with rfl | rfl | rfl | rfl | rfl | rfl | rfl | rfl | rfl | rfl | rfl | rfl | rfl | rfl | rfl | rfl | rfl | rfl | rfl | rfl | rfl | rfl
  all_goals exact ⟨by kernel_rfl, by decide, rfl⟩
theorem forms_len : (flatC 8 (Rows.laid_firewall_codec_forms : DataW Unit)).length = 154 := by kernel_rfl
theorem Dfm_ok : DataOK Tryd.prog Gfm Dfm := by
  refine ⟨fun w w' h hb => ⟨Nat.lt_of_lt_of_le h.1 hb.size, fun j hj => by rw [World.cell?_of_block (w := w) (hb.block _ h.1)]; exact h.2 j hj⟩, fun T g off v h => ?_, fun T ok g b key c v h => by cases h⟩
  simp only [Dfm] at h
  split at h
  · rename_i h1 h2
    obtain rfl : T = 81 := by simpa using h1
    obtain rfl : g = 1 := by simpa using h2
    split at h
    · rename_i l hl
      obtain rfl := Option.some.inj h
      obtain ⟨e1, e2, e3⟩ := formT_ok _ (rowOf_mem hl)
      simp only at e1 e2 e3
      refine ⟨e3, fun w hw => ?_⟩
      have hlen := forms_len
      have hrow : (((flatC 8 (Rows.laid_firewall_codec_forms : DataW Unit)).drop off).take 7).length = 7 := by simp; omega
      obtain ⟨inf, hi, hs⟩ : ∃ inf, Tryd.prog.info? 81 = some inf ∧ inf.size = 7 := by
        cases hh : Tryd.prog.info? 81 with
        | none => exact absurd hh (by have : (Tryd.prog.info? 81).isSome = true := by kernel_rfl
                                      intro e; rw [e] at this; cases this)
        | some inf =>
          refine ⟨inf, rfl, ?_⟩
          have : (Tryd.prog.info? 81).map (·.size) = some 7 := by kernel_rfl
          rw [hh] at this; simpa using this
      refine ⟨_, glob_agg hi (by kernel_rfl) _ (by rw [hrow, hs]) (fun j v hv => ?_), fun ρ => ⟨_, rfl, ?_⟩⟩
      · have hj : j < 7 := by have := (List.getElem?_eq_some_iff.1 hv).1; omega
        rw [hw.2 (off + j) (by rw [hlen]; omega)]
        rw [List.getElem?_take, if_pos hj, List.getElem?_drop] at hv
        exact hv
      · rw [e1]; exact mapLeaf_rel _
    · cases h
  · cases h
def condB (x : BitVec 64) : Bool := x == 2#64 || x == 3#64 || x == 4#64 || x == 5#64 || x == 6#64 || x == 7#64 || x == 12#64 || x == 13#64 || x == 14#64 || x == 15#64
def condZ : List Int := [2, 3, 4, 5, 6, 7, 12, 13, 14, 15]
theorem condB_eq (x : BitVec 64) : condZ.contains x.toInt = condB x := by
  rw [Bool.eq_iff_iff]
  have key : ∀ k : BitVec 64, (x.toInt = k.toInt) ↔ (x = k) := fun k => ⟨BitVec.eq_of_toInt_eq, fun h => by rw [h]⟩
  have k2 := key 2#64; have k3 := key 3#64; have k4 := key 4#64; have k5 := key 5#64; have k6 := key 6#64; have k7 := key 7#64; have k12 := key 12#64; have k13 := key 13#64; have k14 := key 14#64; have k15 := key 15#64
  simp only [condZ, List.contains_cons, List.contains_nil, Bool.or_false, Bool.or_eq_true, beq_iff_eq, condB, or_assoc]
  rw [← k2, ← k3, ← k4, ← k5, ← k6, ← k7, ← k12, ← k13, ← k14, ← k15]
  rfl
abbrev gCd : Nat := 3
/-- Where the conditions lie: m tells the block, and, 1000 further on, the place. -/
abbrev cdS (m : Nat → Nat) : Value := .slice (some ⟨m gCd, m (gCd + 1000), none⟩) 10 10
def Gcd (m : Nat → Nat) : World → Prop := fun w => gCd < w.heap.size ∧ m gCd < w.heap.size ∧ w.cell? ⟨gCd, 0, none⟩ = some (cdS m) ∧ ∀ j, j < condZ.length → w.cell? ⟨m gCd, m (gCd + 1000) + j, none⟩ = some (.int .i64 (condZ.getD j 0))
def Dcd (m : Nat → Nat) : VData where
  glob := fun T g off => match off with
    | 0 => match Nat.beq T 97, Nat.beq g gCd with
      | true, true => some (.one (.raw (cdS m)))
      | _, _ => none
    | _ => none
  look := fun _ _ _ _ _ => none
theorem Dcd_ok (m : Nat → Nat) : DataOK Tryd.prog (Gcd m) (Dcd m) := by
  refine ⟨fun w w' h hb => ⟨Nat.lt_of_lt_of_le h.1 hb.size, Nat.lt_of_lt_of_le h.2.1 hb.size, by rw [World.cell?_of_block (w := w) (hb.block _ h.1)]; exact h.2.2.1,
    fun j hj => by rw [World.cell?_of_block (w := w) (hb.block _ h.2.1)]; exact h.2.2.2 j hj⟩, fun T g off v h => ?_, fun T ok g b key c v h => by cases h⟩
  simp only [Dcd] at h
  split at h
  · split at h
    · rename_i h1 h2
      obtain rfl : T = 97 := by simpa using h1
      obtain rfl : g = gCd := by simpa using h2
      obtain rfl := Option.some.inj h
      refine ⟨rfl, fun w hw => ⟨cdS m, ?_, fun ρ _ => rfl⟩⟩
      simp [loadVar, isAgg_run (P := Tryd.prog) (T := 97) (b := false) (by kernel_rfl), hw.2.2.1]
    · cases h
  · cases h
def GB (m : Nat → Nat) : World → Prop := and2 Gfm (and2 (Gld m) (Gcd m))
def DB (m : Nat → Nat) : VData := or2 Dfm (or2 (Dld m) (Dcd m))
theorem DB_ok (m : Nat → Nat) : DataOK Tryd.prog (GB m) (DB m) := ok2 Dfm_ok (ok2 (Dld_ok m) (Dcd_ok m))
def GP (m : Nat → Nat) : World → Prop := and2 (Gdz m) (Gsf m)
def DP (m : Nat → Nat) : VData := or2 (Ddz m) (Dsf m)
theorem DP_ok (m : Nat → Nat) : DataOK Tryd.prog (GP m) (DP m) := ok2 (Ddz_ok m) (Dsf_ok m)
abbrev tb_start : List (Nat × Sp) := []
theorem C_start (G1 : World → Prop) (D1 : VData) (k1 : DataOK Tryd.prog G1 D1) (m : Nat → Nat) : CSound Tryd.prog (and2 (GB m) G1) (tab (or2 (DB m) D1) tb_start) := CSound.nil (ok2 (DB_ok m) k1)
end Go.Proofs.YtppankimieopiaaDoor
