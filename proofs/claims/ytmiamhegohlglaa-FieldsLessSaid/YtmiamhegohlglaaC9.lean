/- Function values, results that lie in cells, division and shifts, bytes and strings, slices that are written no more. -/
import Derived.Test.YtmiamhegohlglaaC8
set_option linter.unusedSimpArgs false
set_option linter.unusedVariables false
namespace Go.Proofs.Ytmiamhegohlglaa

section
variable {P : Program} {r : Option Nat} {N : Nat} {D : List Nat} {B : Base} {all : Array Oper} {K : List (Nat × Ct) → St → Prop}
variable {i : Nat} {ops : List Oper} {tr : List (Nat × Ct)} {E : List (Nat × Ent)} {L : List (Nat × LO)} {n : Nat} {g : Bool} {gn : List (Nat × Ent)}
variable {d ty : Nat} {pos : String} {aft : Array Edge} {gd : Option (Nat × Bool)}

/-! ### function values -/

theorem R.makeFunc {fn : Fn} {first cap : Array Operand} {es fs : List Ent} {us vs : List LV}
    (ho : all[i]? = some ⟨some d, .makeFunc fn first cap, ty, pos, aft, gd⟩ := by rfl) (hg : GuardOk (en E) all gd g gn := by first | exact gN | exact gS rfl rfl)
    (hx : first.toList.map (lvOf (en E)) = es.map some := by rfl) (hy : cap.toList.map (lvOf (en E)) = fs.map some := by rfl)
    (hes : g = true → es.map entLV = us := by first | exact fun _ => rfl | (intro h; simp [entLV, h])) (hfs : g = true → fs.map entLV = vs := by first | exact fun _ => rfl | (intro h; simp [entLV, h]))
    (h : Reg P r N D B all (i + 1) ops ((i, Ct.p gn (first.toList ++ cap.toList) (es ++ fs) (some d) (g, .fn fn us vs) []) :: tr) (st ((d, (g, .fn fn us vs)) :: E) L n) K) :
    Reg P r N D B all i (⟨some d, .makeFunc fn first cap, ty, pos, aft, gd⟩ :: ops) tr (st E L n) K := by
  have hl : (Oper.mk (some d) (.makeFunc fn first cap) ty pos aft gd).op.operands.toList = first.toList ++ cap.toList := by simp [Op.operands]
  refine Reg.pure (es := es ++ fs) (rd := []) (out := .fn fn us vs) ho hg ?_ (by simp) (fun hgt => ?_) ?_
  · rw [hl]; exact Opnds.of_map (by rw [List.map_append, hx, hy, List.map_append])
  · refine OpC.of_pure (by simp) fun md n0 cx H ρ w _ _ hv => ?_
    rw [hl, List.map_append, hes hgt, hfs hgt, List.map_append] at hv
    obtain ⟨a, b, hab, ha, hb⟩ := Vs.split hv
    have hlen : a.length = first.toList.length := by
      rw [ha.length, ← hes hgt, List.length_map]
      have := congrArg List.length hx
      simpa using this.symm
    have hsplit := List.append_inj hab.symm (by rw [hlen, List.length_map])
    refine ⟨.func fn (first.map ρ) (cap.map ρ), by simp [execOp, Instr.makeFunc], ?_⟩
    simp only [V]
    refine ⟨a, b, ?_, ha, hb⟩
    rw [hsplit.1, hsplit.2]
    congr 1 <;> (apply Array.ext'; simp)
  · rw [hl]; exact h

theorem sg_range {m n o : Nat} (h : o < m) : sg (List.range m) n o = o := by simp [sg, List.getD_eq_getElem?_getD, h]
mutual
theorem mapI_of_lt {σ : Nat → Nat} {m : Nat} (h : ∀ o, o < m → σ o = o) : ∀ l : LV, l.lt m = true → l.mapI σ = l
  | .sv s, _ => by simp [LV.mapI]
  | .agg cs, hl => by simp only [LV.mapI]; rw [mapIs_of_lt h cs (by simpa [LV.lt] using hl)]
  | .tup cs, hl => by simp only [LV.mapI]; rw [mapIs_of_lt h cs (by simpa [LV.lt] using hl)]
  | .ptr o off, hl => by simp only [LV.mapI]; rw [h o (by simpa [LV.lt] using hl)]
  | .ref o, hl => by simp only [LV.mapI]; rw [h o (by simpa [LV.lt] using hl)]
  | .fn f p q, hl => by
    simp only [LV.lt, Bool.and_eq_true] at hl
    simp only [LV.mapI]; rw [mapIs_of_lt h p hl.1, mapIs_of_lt h q hl.2]
  | .yld o, hl => by simp only [LV.mapI]; rw [h o (by simpa [LV.lt] using hl)]
theorem mapIs_of_lt {σ : Nat → Nat} {m : Nat} (h : ∀ o, o < m → σ o = o) : ∀ l : List LV, LV.lts m l = true → LV.mapIs σ l = l
  | [], _ => by simp [LV.mapIs]
  | c :: cs, hl => by
    simp only [LV.lts, Bool.and_eq_true] at hl
    simp only [LV.mapIs]; rw [mapI_of_lt h c hl.1, mapIs_of_lt h cs hl.2]
end
theorem LO.mapI_of_lt {σ : Nat → Nat} {m : Nat} (h : ∀ o, o < m → σ o = o) : ∀ x : LO, x.lt m = true → x.mapI σ = x
  | .box T cs, hl => by simp only [LO.mapI]; rw [mapIs_of_lt h cs hl]
  | .row T sz xs, hl => by
    simp only [LO.mapI]
    congr 1
    simp only [LO.lt, List.all_eq_true] at hl
    exact (List.map_congr_left (fun a ha => mapIs_of_lt h a (hl a ha))).trans (List.map_id _)
  | .rs T sz ys, _ => rfl
  | .bx T cs k Te sz ys, hl => by simp only [LO.mapI]; rw [mapIs_of_lt h cs hl]
  | .raw x, _ => rfl
  | .loop fn N E ps a b st pd, hl => by
    simp only [LO.mapI, mapE]
    congr 1
    exact (List.map_congr_left (fun p hp' => by rw [Go.Proofs.Ytmiamhegohlglaa.mapI_of_lt h _ (List.all_eq_true.1 hl p hp')]; rfl)).trans (List.map_id _)

/-- a call by a contract that speaks of the objects 0, .., m - 1 under the caller's own names, and only reads them -/
theorem R.callRd {f m : Nat} {fo : Operand} {args : Array Operand} {ats : Array TypeId} {es : List Ent} {avs first cap : List LV} {out : LV} {Hi : List (Nat × LO)} (hc : LC P f m (first ++ avs ++ cap) Hi out Hi 0)
    (ho : all[i]? = some ⟨some d, .call { callee := .value fo, args := args, argTypes := ats }, ty, pos, aft, none⟩ := by rfl)
    (hf : lvOf (en E) fo = some (true, .fn (.func f) first cap) := by rfl)
    (hx : args.toList.map (lvOf (en E)) = es.map some := by rfl) (hes : es.map entLV = avs := by rfl) (hm : m ≤ n := by omega) (hL : ∀ k x, hp Hi k = some x → hp L k = some x) (hol : out.lt m = true := by rfl)
    (h : Reg P r N D B all (i + 1) ops ((i, ⟨needOf (fo :: args.toList) ((true, .fn (.func f) first cap) :: es), some d, (true, out), [], Hi, Hi, []⟩) :: tr) (st ((d, (true, out)) :: E) L n) K) :
    Reg P r N D B all i (⟨some d, .call { callee := .value fo, args := args, argTypes := ats }, ty, pos, aft, none⟩ :: ops) tr (st E L n) K := by
  have hl : (Oper.mk (some d) (.call { callee := .value fo, args := args, argTypes := ats }) ty pos aft none).op.operands.toList = fo :: args.toList := by simp [Op.operands, Go.Call.operands]
  have hσ : ∀ o, o < m → sg (List.range m) n o = o := fun o ho => sg_range ho
  have hHi : (Hi.map fun p => (sg (List.range m) n p.1, p.2.mapI (sg (List.range m) n))) = Hi := by
    refine (List.map_congr_left (fun p hp' => ?_)).trans (List.map_id _)
    have := hc.his p hp'
    rw [hσ _ this.1, LO.mapI_of_lt hσ _ this.2]; rfl
  have hc' : LC P f (List.range m).length (first ++ avs ++ cap) Hi out Hi 0 := by rw [List.length_range]; exact hc
  have h2 := OpC.call (r := r) (n := n) (ids := List.range m) (k := 0) (Ho := Hi) hc' (List.nodup_range) (o := ⟨some d, .call { callee := .value fo, args := args, argTypes := ats }, ty, pos, aft, none⟩) rfl rfl (first := first) (cap := cap) (avs := es.map entLV)
    (by rw [mapIs_of_lt hσ _ hc.args, hes])
  rw [hHi, mapI_of_lt hσ _ hol] at h2
  refine Reg.cons (c := ⟨needOf (fo :: args.toList) ((true, .fn (.func f) first cap) :: es), some d, (true, out), [], Hi, Hi, []⟩) (fun hN => ?_) ⟨fun p hp' => ?_, by simp, hL, by simp⟩ ?_
  · have := CtOk.of_op (r := r) (D := D) (B := B) (o := ⟨some d, .call { callee := .value fo, args := args, argTypes := ats }, ty, pos, aft, none⟩) (es := (true, .fn (.func f) first cap) :: es) (E := en E) ho hN.dst gN (fun _ => h2) (by rw [hl]; exact ⟨_, _, rfl, hf, Opnds.of_map hx⟩) (.inl rfl)
    rw [hl] at this
    simpa using this
  · have hop : Opnds (en E) (fo :: args.toList) ((true, .fn (.func f) first cap) :: es) := ⟨_, _, rfl, hf, Opnds.of_map hx⟩
    exact hop.need p hp'
  · have : (Ct.app ⟨needOf (fo :: args.toList) ((true, .fn (.func f) first cap) :: es), some d, (true, out), [], Hi, Hi, []⟩ (st E L n)) = st ((d, (true, out)) :: E) L n := by
      simp only [Ct.app, putE_putL, putL]
      congr 1
      · funext k
        simp only [Hp.upd]
        cases hk : hp Hi k with
        | some x => exact (hL k x hk).symm
        | none => rfl
      · funext k; simp
    rw [this]; exact h

/-! ### division, shifts -/

theorem run_quo (t : Nat) (x y : Operand) (k : IntKind) (a b : Int) (ha : 0 ≤ a) (hb : 0 < b) (hw : k.wrap (a / b) = a / b) : ∀ w, (do eqGuard .quo t x y (.int k a) (.int k b); binOp .quo t (.int k a) (.int k b) : Sem Value).run P w = .ok (.int k (a / b)) w :=
  binI .quo rfl t x y k a b fun w => by
    have hb' : b ≠ 0 := by omega
    simp [binOp, Op.intDiv, hb', Int.tdiv_eq_ediv_of_nonneg ha, hw]
theorem run_rem (t : Nat) (x y : Operand) (k : IntKind) (a b : Int) (ha : 0 ≤ a) (hb : 0 < b) : ∀ w, (do eqGuard .rem t x y (.int k a) (.int k b); binOp .rem t (.int k a) (.int k b) : Sem Value).run P w = .ok (.int k (a % b)) w :=
  binI .rem rfl t x y k a b fun w => by
    have hb' : b ≠ 0 := by omega
    simp [binOp, Op.intDiv, hb', Int.tmod_eq_emod_of_nonneg ha]
theorem run_shr (t : Nat) (x y : Operand) (k yk : IntKind) (a b : Int) (hb : 0 ≤ b) : ∀ w, (do eqGuard .shr t x y (.int k a) (.int yk b); binOp .shr t (.int k a) (.int yk b) : Sem Value).run P w = .ok (.int k (a / 2 ^ (min b.toNat k.bits))) w := by
  intro w
  have hb' : ¬ b < 0 := by omega
  have hd : (0 : Int) ≤ 2 ^ (min b.toNat k.bits) := Int.le_of_lt (Int.pow_pos (by omega))
  simp [eqGuard, binOp, Op.shift, hb', Int.fdiv_eq_ediv_of_nonneg _ hd]
theorem run_shl (t : Nat) (x y : Operand) (k yk : IntKind) (a b : Int) (hb : 0 ≤ b) : ∀ w, (do eqGuard .shl t x y (.int k a) (.int yk b); binOp .shl t (.int k a) (.int yk b) : Sem Value).run P w = .ok (.int k (k.wrap (a * 2 ^ (min b.toNat k.bits)))) w := by
  intro w
  have hb' : ¬ b < 0 := by omega
  simp [eqGuard, binOp, Op.shift, hb']

theorem R.quo {t yt : Nat} {x y : Operand} {gx gy : Bool} {k : IntKind} {a b : Int} (ho : all[i]? = some ⟨some d, .binOp .quo t x y yt, ty, pos, aft, gd⟩ := by rfl) (hg : GuardOk (en E) all gd g gn := by first | exact gN | exact gS rfl rfl)
    (hx : lvOf (en E) x = some (gx, .v (.int k a)) := by rfl) (hy : lvOf (en E) y = some (gy, .v (.int k b)) := by rfl)
    (hgx : g = true → gx = true := by first | exact fun _ => rfl | exact id) (hgy : g = true → gy = true := by first | exact fun _ => rfl | exact id)
    (ha : 0 ≤ a := by omega) (hb : 0 < b := by omega)
    (hw : k.wrap (a / b) = a / b := by first | exact wrap_i64 (by omega) (by omega) | exact wrap_u rfl (by omega) (by (try simp only [IntKind.bits]); omega))
    (h : Reg P r N D B all (i + 1) ops ((i, Ct.p gn [x, y] [(gx, .v (.int k a)), (gy, .v (.int k b))] (some d) (g, .v (.int k (a / b))) []) :: tr) (st ((d, (g, .v (.int k (a / b)))) :: E) L n) K) :
    Reg P r N D B all i (⟨some d, .binOp .quo t x y yt, ty, pos, aft, gd⟩ :: ops) tr (st E L n) K :=
  R.bin (run_quo t x y k a b ha hb hw) ho hg hx hy hgx hgy h
theorem R.rem {t yt : Nat} {x y : Operand} {gx gy : Bool} {k : IntKind} {a b : Int} (ho : all[i]? = some ⟨some d, .binOp .rem t x y yt, ty, pos, aft, gd⟩ := by rfl) (hg : GuardOk (en E) all gd g gn := by first | exact gN | exact gS rfl rfl)
    (hx : lvOf (en E) x = some (gx, .v (.int k a)) := by rfl) (hy : lvOf (en E) y = some (gy, .v (.int k b)) := by rfl)
    (hgx : g = true → gx = true := by first | exact fun _ => rfl | exact id) (hgy : g = true → gy = true := by first | exact fun _ => rfl | exact id)
    (ha : 0 ≤ a := by omega) (hb : 0 < b := by omega)
    (h : Reg P r N D B all (i + 1) ops ((i, Ct.p gn [x, y] [(gx, .v (.int k a)), (gy, .v (.int k b))] (some d) (g, .v (.int k (a % b))) []) :: tr) (st ((d, (g, .v (.int k (a % b)))) :: E) L n) K) :
    Reg P r N D B all i (⟨some d, .binOp .rem t x y yt, ty, pos, aft, gd⟩ :: ops) tr (st E L n) K :=
  R.bin (run_rem t x y k a b ha hb) ho hg hx hy hgx hgy h
theorem R.shr {t yt : Nat} {x y : Operand} {gx gy : Bool} {k yk : IntKind} {a b : Int} (ho : all[i]? = some ⟨some d, .binOp .shr t x y yt, ty, pos, aft, gd⟩ := by rfl) (hg : GuardOk (en E) all gd g gn := by first | exact gN | exact gS rfl rfl)
    (hx : lvOf (en E) x = some (gx, .v (.int k a)) := by rfl) (hy : lvOf (en E) y = some (gy, .v (.int yk b)) := by rfl)
    (hgx : g = true → gx = true := by first | exact fun _ => rfl | exact id) (hgy : g = true → gy = true := by first | exact fun _ => rfl | exact id)
    (hb : 0 ≤ b := by omega)
    (h : Reg P r N D B all (i + 1) ops ((i, Ct.p gn [x, y] [(gx, .v (.int k a)), (gy, .v (.int yk b))] (some d) (g, .v (.int k (a / 2 ^ (min b.toNat k.bits)))) []) :: tr) (st ((d, (g, .v (.int k (a / 2 ^ (min b.toNat k.bits))))) :: E) L n) K) :
    Reg P r N D B all i (⟨some d, .binOp .shr t x y yt, ty, pos, aft, gd⟩ :: ops) tr (st E L n) K :=
  R.bin (run_shr t x y k yk a b hb) ho hg hx hy hgx hgy h

/-! ### a byte of a string; strings and bytes -/

theorem R.indexS {T : Nat} (hT : ∀ w, (underlying T).run P w = .ok .string w) {x y : Operand} {gx gy : Bool} {s : ByteArray} {k : IntKind} {j : Int} {c : UInt8}
    (ho : all[i]? = some ⟨some d, .index T x y, ty, pos, aft, gd⟩ := by rfl) (hg : GuardOk (en E) all gd g gn := by first | exact gN | exact gS rfl rfl)
    (hx : lvOf (en E) x = some (gx, .s s) := by rfl) (hy : lvOf (en E) y = some (gy, .v (.int k j)) := by rfl)
    (hgx : g = true → gx = true := by first | exact fun _ => rfl | exact id) (hgy : g = true → gy = true := by first | exact fun _ => rfl | exact id)
    (hj : 0 ≤ j ∧ s.data.toList[j.toNat]? = some c)
    (h : Reg P r N D B all (i + 1) ops ((i, Ct.p gn [x, y] [(gx, .s s), (gy, .v (.int k j))] (some d) (g, .y c.toNat) []) :: tr) (st ((d, (g, .y c.toNat)) :: E) L n) K) :
    Reg P r N D B all i (⟨some d, .index T x y, ty, pos, aft, gd⟩ :: ops) tr (st E L n) K :=
  Reg.two rfl (fun h => by
    rw [entLV_true h hgx, entLV_true h hgy]
    refine OpC.of_pure2 (x := x) (y := y) rfl (by simp) fun md n0 cx H ρ w _ _ v1 v2 => ?_
    obtain ⟨h0, h1⟩ := hj
    refine ⟨.int .u8 c.toNat, ?_, V.mkval⟩
    have hs : s[j.toNat]? = some c := by
      have hlt := (List.getElem?_eq_some_iff.1 h1).1
      have hsz : j.toNat < s.size := by simpa using hlt
      have he := (List.getElem?_eq_some_iff.1 h1).2
      simp only [getElem?, decidableGetElem?, hsz, dif_pos]
      simp only [Array.getElem_toList] at he
      exact congrArg some he
    simp [execOp, Instr.index, asIntOf, v1.val, v2.val, hT w, h0, hs]) ho hg hx hy (by simp) h

def bytesC (l : List UInt8) : List (List SV) := l.map fun b => [.val (.int .u8 b.toNat)]

theorem VSR.bytes {pr : Nat → Nat} {w : World} {b : Nat} : ∀ {l : List UInt8} {off : Nat}, VSR pr w b off 1 (bytesC l) → ∀ j (hj : j < l.length), w.cell? ⟨b, off + j, none⟩ = some (.int .u8 (l[j].toNat : Int))
  | [], off, _, j, hj => by simp at hj
  | c :: l, off, h, j, hj => by
    simp only [bytesC, List.map_cons, VSR, VSC, VS] at h
    obtain ⟨_, ⟨⟨v, h1, _, h2⟩, _⟩, h3⟩ := h
    subst h2
    cases j with
    | zero => simpa using h1
    | succ j =>
      have := VSR.bytes (l := l) h3 j (by simpa using hj)
      rw [show off + 1 + j = off + (j + 1) from by omega] at this
      simpa using this

theorem R.toString {s t e : Nat} (hs : P.underlying s = some (.slice e)) (he : P.underlying e = some (.int .u8)) (ht : P.underlying t = some .string) {x : Operand} {gx : Bool} {l : List UInt8}
    (ho : all[i]? = some ⟨some d, .convert s t x, ty, pos, aft, gd⟩ := by rfl) (hg : GuardOk (en E) all gd g gn := by first | exact gN | exact gS rfl rfl)
    (hx : lvOf (en E) x = some (gx, .sv (.sl 1 (bytesC l))) := by rfl) (hgx : g = true → gx = true := by first | exact fun _ => rfl | exact id)
    (h : Reg P r N D B all (i + 1) ops ((i, Ct.p gn [x] [(gx, .sv (.sl 1 (bytesC l)))] (some d) (g, .s ⟨l.toArray⟩) []) :: tr) (st ((d, (g, .s ⟨l.toArray⟩)) :: E) L n) K) :
    Reg P r N D B all i (⟨some d, .convert s t x, ty, pos, aft, gd⟩ :: ops) tr (st E L n) K :=
  Reg.one rfl (fun h => by
    rw [entLV_true h hgx]
    refine OpC.of_pure1 (x := x) rfl (by simp) fun md n0 cx H ρ w _ _ hvv => ?_
    refine ⟨.string ⟨l.toArray⟩, ?_, V.mkval⟩
    simp only [V, VS] at hvv
    rcases hvv with ⟨h1 | ⟨ad, cap, h1, _⟩, h2⟩ | ⟨b, off, cap, h1, _, _, _, h3⟩
    · have hl : l = [] := by cases l with
        | nil => rfl
        | cons a l => simp [bytesC] at h2
      subst hl
      simp [execOp, h1, run_convert_bytes_nil (P := P) w s e hs he 0 0]
      have := run_convert_bytes_string (P := P) w s t e none 0 0 hs he ht
      rw [this]
      simp [Conv.bytesToString]
      rfl
    · have hl : l = [] := by cases l with
        | nil => rfl
        | cons a l => simp [bytesC] at h2
      subst hl
      have := run_convert_bytes_back (P := P) w s t e ad cap [] hs he ht (fun j hj => by simp at hj)
      simp only [List.length_nil] at this
      simp [execOp, h1, this]
    · have hlen : (bytesC l).length = l.length := by simp [bytesC]
      have := run_convert_bytes_back (P := P) w s t e ⟨b, off, none⟩ cap l hs he ht (fun j hj => by
        have hadd : (⟨b, off, none⟩ : Addr).add j = ⟨b, off + j, none⟩ := by unfold Addr.add; split <;> simp_all
        rw [hadd]; exact VSR.bytes h3 j hj)
      rw [hlen] at h1
      simp [execOp, h1, this]) ho hg hx (by simp) h

end

end Go.Proofs.Ytmiamhegohlglaa
