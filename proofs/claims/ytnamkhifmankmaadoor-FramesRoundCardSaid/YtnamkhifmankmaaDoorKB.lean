/- The ground of the walks: a program logic over told states (no condition). -/
import Derived.Test.YtnamkhifmankmaaDoorKA
set_option linter.unusedSimpArgs false
set_option linter.unusedVariables false
/- Function values, results that lie in cells, division and shifts, bytes and strings, slices that are written no more. -/
namespace Go.Proofs.YtnamkhifmankmaaDoor

section
variable {P : Program} {r : Option Nat} {N : Nat} {D : List Nat} {B : Base} {all : Array Oper} {K : List (Nat × Ct) → St → Prop}
variable {i : Nat} {ops : List Oper} {tr : List (Nat × Ct)} {E : List (Nat × Ent)} {L : List (Nat × LO)} {n : Nat} {g : Bool} {gn : List (Nat × Ent)}
variable {d ty : Nat} {pos : String} {aft : Array Edge} {gd : Option (Nat × Bool)}

/-! ### function values -/

theorem R.makeFunc {fn : Fn} {first cap : Array Operand} {es fs : List Ent} {us vs : List LV}
    (ho : all[i]? = some ⟨some d, .makeFunc fn first cap, ty, pos, aft, gd⟩ := by rfl) (hg : GuardOk (en E) all gd g gn := by first | exact gN | exact gS rfl rfl)
    (hx : first.toList.map (lvOf (en E)) = es.map some := by rfl) (hy : cap.toList.map (lvOf (en E)) = fs.map some := by rfl)
    (hes : g = true → es.map entLV = us := by first | exact fun _ => rfl | (intro h; simp [entLV, h]; done) | (intro h; simp only [List.map_cons, List.map_nil, entLV_eq h]; first | done | rfl)) (hfs : g = true → fs.map entLV = vs := by first | exact fun _ => rfl | (intro h; simp [entLV, h]; done) | (intro h; simp only [List.map_cons, List.map_nil, entLV_eq h]; rfl))
    (h : Reg P r N D B all (i + 1) ops ((i, Ct.p gn (first.toList ++ cap.toList) (es ++ fs) (some d) (g, .fn fn us vs) []) :: tr) (st ((d, (g, .fn fn us vs)) :: E) L n) K) :
    Reg P r N D B all i (⟨some d, .makeFunc fn first cap, ty, pos, aft, gd⟩ :: ops) tr (st E L n) K := by
  have hl : (Oper.mk (some d) (.makeFunc fn first cap) ty pos aft gd).op.operands.toList = first.toList ++ cap.toList := by simp [Op.operands]
  refine Reg.pure (es := es ++ fs) (rd := []) (out := .fn fn us vs) ho hg ?_ (by simp) (fun hgt => ?_) ?_
  · rw [hl]; exact Opnds.of_map (by rw [List.map_append, hx, hy, List.map_append])
  · refine OpC.of_pure (by simp) fun md n0 cx H ρ w _ _ hv => ?_
    rw [hl, List.map_append, hes hgt, hfs hgt, List.map_append] at hv
    obtain ⟨a, b, hab, ha, hb⟩ := Vs.split hv
    have hlen : a.length = first.toList.length := by
      rw [ha.length, ← hes hgt, List.length_map]
      have := congrArg List.length hx
      simpa using this.symm
    have hsplit := List.append_inj hab.symm (by rw [hlen, List.length_map])
    refine ⟨.func fn (first.map ρ) (cap.map ρ), by simp [execOp, Instr.makeFunc], ?_⟩
    simp only [V]
    refine ⟨a, b, ?_, ha, hb⟩
    rw [hsplit.1, hsplit.2]
    congr 1 <;> (apply Array.ext'; simp)
  · rw [hl]; exact h

theorem sg_range {m n o : Nat} (h : o < m) : sg (List.range m) n o = o := by simp [sg, List.getD_eq_getElem?_getD, h]
mutual
theorem mapI_of_lt {σ : Nat → Nat} {m : Nat} (h : ∀ o, o < m → σ o = o) : ∀ l : LV, l.lt m = true → l.mapI σ = l
  | .sv s, _ => by simp [LV.mapI]
  | .agg cs, hl => by simp only [LV.mapI]; rw [mapIs_of_lt h cs (by simpa [LV.lt] using hl)]
  | .tup cs, hl => by simp only [LV.mapI]; rw [mapIs_of_lt h cs (by simpa [LV.lt] using hl)]
  | .ptr o off, hl => by simp only [LV.mapI]; rw [h o (by simpa [LV.lt] using hl)]
  | .ref o, hl => by simp only [LV.mapI]; rw [h o (by simpa [LV.lt] using hl)]
  | .fn f p q, hl => by
    simp only [LV.lt, Bool.and_eq_true] at hl
    simp only [LV.mapI]; rw [mapIs_of_lt h p hl.1, mapIs_of_lt h q hl.2]
  | .yld o, hl => by simp only [LV.mapI]; rw [h o (by simpa [LV.lt] using hl)]
  | .sub o off len cap, hl => by simp only [LV.mapI]; rw [h o (by simpa [LV.lt] using hl)]
  | .pv _, _ => by simp [LV.mapI]
theorem mapIs_of_lt {σ : Nat → Nat} {m : Nat} (h : ∀ o, o < m → σ o = o) : ∀ l : List LV, LV.lts m l = true → LV.mapIs σ l = l
  | [], _ => by simp [LV.mapIs]
  | c :: cs, hl => by
    simp only [LV.lts, Bool.and_eq_true] at hl
    simp only [LV.mapIs]; rw [mapI_of_lt h c hl.1, mapIs_of_lt h cs hl.2]
end
theorem LO.mapI_of_lt {σ : Nat → Nat} {m : Nat} (h : ∀ o, o < m → σ o = o) : ∀ x : LO, x.lt m = true → x.mapI σ = x
  | .box T cs, hl => by simp only [LO.mapI]; rw [mapIs_of_lt h cs hl]
  | .row T sz xs, hl => by
    simp only [LO.mapI]
    congr 1
    simp only [LO.lt, List.all_eq_true] at hl
    exact (List.map_congr_left (fun a ha => mapIs_of_lt h a (hl a ha))).trans (List.map_id _)
  | .rs T sz ys, _ => rfl
  | .bx T cs k Te sz ys, hl => by simp only [LO.mapI]; rw [mapIs_of_lt h cs hl]
  | .raw x, _ => rfl
  | .loop fn N E ps a b st pd, hl => by
    simp only [LO.mapI, mapE]
    congr 1
    exact (List.map_congr_left (fun p hp' => by rw [Go.Proofs.YtnamkhifmankmaaDoor.mapI_of_lt h _ (List.all_eq_true.1 hl p hp')]; rfl)).trans (List.map_id _)

/-- a call by a contract that speaks of the objects 0, .., m - 1 under the caller's own names, and only reads them -/
theorem R.callRd {f m : Nat} {fo : Operand} {args : Array Operand} {ats : Array TypeId} {es : List Ent} {avs first cap : List LV} {out : LV} {Hi : List (Nat × LO)} (hc : LC P f m (first ++ avs ++ cap) Hi out Hi 0)
    (ho : all[i]? = some ⟨some d, .call { callee := .value fo, args := args, argTypes := ats }, ty, pos, aft, none⟩ := by rfl)
    (hf : lvOf (en E) fo = some (true, .fn (.func f) first cap) := by rfl)
    (hx : args.toList.map (lvOf (en E)) = es.map some := by rfl) (hes : es.map entLV = avs := by rfl) (hm : m ≤ n := by omega) (hL : ∀ k x, hp Hi k = some x → hp L k = some x) (hol : out.lt m = true := by rfl)
    (h : Reg P r N D B all (i + 1) ops ((i, ⟨needOf (fo :: args.toList) ((true, .fn (.func f) first cap) :: es), some d, (true, out), [], Hi, Hi, []⟩) :: tr) (st ((d, (true, out)) :: E) L n) K) :
    Reg P r N D B all i (⟨some d, .call { callee := .value fo, args := args, argTypes := ats }, ty, pos, aft, none⟩ :: ops) tr (st E L n) K := by
  have hl : (Oper.mk (some d) (.call { callee := .value fo, args := args, argTypes := ats }) ty pos aft none).op.operands.toList = fo :: args.toList := by simp [Op.operands, Go.Call.operands]
  have hσ : ∀ o, o < m → sg (List.range m) n o = o := fun o ho => sg_range ho
  have hHi : (Hi.map fun p => (sg (List.range m) n p.1, p.2.mapI (sg (List.range m) n))) = Hi := by
    refine (List.map_congr_left (fun p hp' => ?_)).trans (List.map_id _)
    have := hc.his p hp'
    rw [hσ _ this.1, LO.mapI_of_lt hσ _ this.2]; rfl
  have hc' : LC P f (List.range m).length (first ++ avs ++ cap) Hi out Hi 0 := by rw [List.length_range]; exact hc
  have h2 := OpC.call (r := r) (n := n) (ids := List.range m) (k := 0) (Ho := Hi) hc' (List.nodup_range) (o := ⟨some d, .call { callee := .value fo, args := args, argTypes := ats }, ty, pos, aft, none⟩) rfl rfl (first := first) (cap := cap) (avs := es.map entLV)
    (by rw [mapIs_of_lt hσ _ hc.args, hes])
  rw [hHi, mapI_of_lt hσ _ hol] at h2
  refine Reg.cons (c := ⟨needOf (fo :: args.toList) ((true, .fn (.func f) first cap) :: es), some d, (true, out), [], Hi, Hi, []⟩) (fun hN => ?_) ⟨fun p hp' => ?_, by simp, hL, by simp⟩ ?_
  · have := CtOk.of_op (r := r) (D := D) (B := B) (o := ⟨some d, .call { callee := .value fo, args := args, argTypes := ats }, ty, pos, aft, none⟩) (es := (true, .fn (.func f) first cap) :: es) (E := en E) ho hN.dst gN (fun _ => h2) (by rw [hl]; exact ⟨_, _, rfl, hf, Opnds.of_map hx⟩) (.inl rfl)
    rw [hl] at this
    simpa using this
  · have hop : Opnds (en E) (fo :: args.toList) ((true, .fn (.func f) first cap) :: es) := ⟨_, _, rfl, hf, Opnds.of_map hx⟩
    exact hop.need p hp'
  · have : (Ct.app ⟨needOf (fo :: args.toList) ((true, .fn (.func f) first cap) :: es), some d, (true, out), [], Hi, Hi, []⟩ (st E L n)) = st ((d, (true, out)) :: E) L n := by
      simp only [Ct.app, putE_putL, putL]
      congr 1
      · funext k
        simp only [Hp.upd]
        cases hk : hp Hi k with
        | some x => exact (hL k x hk).symm
        | none => rfl
      · funext k; simp
    rw [this]; exact h

/-! ### division, shifts -/

theorem run_quo (t : Nat) (x y : Operand) (k : IntKind) (a b : Int) (ha : 0 ≤ a) (hb : 0 < b) (hw : k.wrap (a / b) = a / b) : ∀ w, (do eqGuard .quo t x y (.int k a) (.int k b); binOp .quo t (.int k a) (.int k b) : Sem Value).run P w = .ok (.int k (a / b)) w :=
  binI .quo rfl t x y k a b fun w => by
    have hb' : b ≠ 0 := by omega
    simp [binOp, Op.intDiv, hb', Int.tdiv_eq_ediv_of_nonneg ha, hw]
theorem run_rem (t : Nat) (x y : Operand) (k : IntKind) (a b : Int) (ha : 0 ≤ a) (hb : 0 < b) : ∀ w, (do eqGuard .rem t x y (.int k a) (.int k b); binOp .rem t (.int k a) (.int k b) : Sem Value).run P w = .ok (.int k (a % b)) w :=
  binI .rem rfl t x y k a b fun w => by
    have hb' : b ≠ 0 := by omega
    simp [binOp, Op.intDiv, hb', Int.tmod_eq_emod_of_nonneg ha]
theorem run_shr (t : Nat) (x y : Operand) (k yk : IntKind) (a b : Int) (hb : 0 ≤ b) : ∀ w, (do eqGuard .shr t x y (.int k a) (.int yk b); binOp .shr t (.int k a) (.int yk b) : Sem Value).run P w = .ok (.int k (a / 2 ^ (min b.toNat k.bits))) w := by
  intro w
  have hb' : ¬ b < 0 := by omega
  have hd : (0 : Int) ≤ 2 ^ (min b.toNat k.bits) := Int.le_of_lt (Int.pow_pos (by omega))
  simp [eqGuard, binOp, Op.shift, hb', Int.fdiv_eq_ediv_of_nonneg _ hd]
theorem run_shl (t : Nat) (x y : Operand) (k yk : IntKind) (a b : Int) (hb : 0 ≤ b) : ∀ w, (do eqGuard .shl t x y (.int k a) (.int yk b); binOp .shl t (.int k a) (.int yk b) : Sem Value).run P w = .ok (.int k (k.wrap (a * 2 ^ (min b.toNat k.bits)))) w := by
  intro w
  have hb' : ¬ b < 0 := by omega
  simp [eqGuard, binOp, Op.shift, hb']

theorem R.quo {t yt : Nat} {x y : Operand} {gx gy : Bool} {k : IntKind} {a b : Int} (ho : all[i]? = some ⟨some d, .binOp .quo t x y yt, ty, pos, aft, gd⟩ := by rfl) (hg : GuardOk (en E) all gd g gn := by first | exact gN | exact gS rfl rfl)
    (hx : lvOf (en E) x = some (gx, .v (.int k a)) := by rfl) (hy : lvOf (en E) y = some (gy, .v (.int k b)) := by rfl)
    (hgx : g = true → gx = true := by first | exact fun _ => rfl | exact id) (hgy : g = true → gy = true := by first | exact fun _ => rfl | exact id)
    (ha : 0 ≤ a := by omega) (hb : 0 < b := by omega)
    (hw : k.wrap (a / b) = a / b := by first | exact wrap_i64 (by omega) (by omega) | exact wrap_u rfl (by omega) (by (try simp only [IntKind.bits]); omega))
    (h : Reg P r N D B all (i + 1) ops ((i, Ct.p gn [x, y] [(gx, .v (.int k a)), (gy, .v (.int k b))] (some d) (g, .v (.int k (a / b))) []) :: tr) (st ((d, (g, .v (.int k (a / b)))) :: E) L n) K) :
    Reg P r N D B all i (⟨some d, .binOp .quo t x y yt, ty, pos, aft, gd⟩ :: ops) tr (st E L n) K :=
  R.bin (run_quo t x y k a b ha hb hw) ho hg hx hy hgx hgy h
theorem R.rem {t yt : Nat} {x y : Operand} {gx gy : Bool} {k : IntKind} {a b : Int} (ho : all[i]? = some ⟨some d, .binOp .rem t x y yt, ty, pos, aft, gd⟩ := by rfl) (hg : GuardOk (en E) all gd g gn := by first | exact gN | exact gS rfl rfl)
    (hx : lvOf (en E) x = some (gx, .v (.int k a)) := by rfl) (hy : lvOf (en E) y = some (gy, .v (.int k b)) := by rfl)
    (hgx : g = true → gx = true := by first | exact fun _ => rfl | exact id) (hgy : g = true → gy = true := by first | exact fun _ => rfl | exact id)
    (ha : 0 ≤ a := by omega) (hb : 0 < b := by omega)
    (h : Reg P r N D B all (i + 1) ops ((i, Ct.p gn [x, y] [(gx, .v (.int k a)), (gy, .v (.int k b))] (some d) (g, .v (.int k (a % b))) []) :: tr) (st ((d, (g, .v (.int k (a % b)))) :: E) L n) K) :
    Reg P r N D B all i (⟨some d, .binOp .rem t x y yt, ty, pos, aft, gd⟩ :: ops) tr (st E L n) K :=
  R.bin (run_rem t x y k a b ha hb) ho hg hx hy hgx hgy h
theorem R.shr {t yt : Nat} {x y : Operand} {gx gy : Bool} {k yk : IntKind} {a b : Int} (ho : all[i]? = some ⟨some d, .binOp .shr t x y yt, ty, pos, aft, gd⟩ := by rfl) (hg : GuardOk (en E) all gd g gn := by first | exact gN | exact gS rfl rfl)
    (hx : lvOf (en E) x = some (gx, .v (.int k a)) := by rfl) (hy : lvOf (en E) y = some (gy, .v (.int yk b)) := by rfl)
    (hgx : g = true → gx = true := by first | exact fun _ => rfl | exact id) (hgy : g = true → gy = true := by first | exact fun _ => rfl | exact id)
    (hb : 0 ≤ b := by omega)
    (h : Reg P r N D B all (i + 1) ops ((i, Ct.p gn [x, y] [(gx, .v (.int k a)), (gy, .v (.int yk b))] (some d) (g, .v (.int k (a / 2 ^ (min b.toNat k.bits)))) []) :: tr) (st ((d, (g, .v (.int k (a / 2 ^ (min b.toNat k.bits))))) :: E) L n) K) :
    Reg P r N D B all i (⟨some d, .binOp .shr t x y yt, ty, pos, aft, gd⟩ :: ops) tr (st E L n) K :=
  R.bin (run_shr t x y k yk a b hb) ho hg hx hy hgx hgy h

/-! ### a byte of a string; strings and bytes -/

theorem R.indexS {T : Nat} (hT : ∀ w, (underlying T).run P w = .ok .string w) {x y : Operand} {gx gy : Bool} {s : ByteArray} {k : IntKind} {j : Int} {c : UInt8}
    (ho : all[i]? = some ⟨some d, .index T x y, ty, pos, aft, gd⟩ := by rfl) (hg : GuardOk (en E) all gd g gn := by first | exact gN | exact gS rfl rfl)
    (hx : lvOf (en E) x = some (gx, .s s) := by rfl) (hy : lvOf (en E) y = some (gy, .v (.int k j)) := by rfl)
    (hgx : g = true → gx = true := by first | exact fun _ => rfl | exact id) (hgy : g = true → gy = true := by first | exact fun _ => rfl | exact id)
    (hj : 0 ≤ j ∧ s.data.toList[j.toNat]? = some c)
    (h : Reg P r N D B all (i + 1) ops ((i, Ct.p gn [x, y] [(gx, .s s), (gy, .v (.int k j))] (some d) (g, .y c.toNat) []) :: tr) (st ((d, (g, .y c.toNat)) :: E) L n) K) :
    Reg P r N D B all i (⟨some d, .index T x y, ty, pos, aft, gd⟩ :: ops) tr (st E L n) K :=
  Reg.two rfl (fun h => by
    rw [entLV_true h hgx, entLV_true h hgy]
    refine OpC.of_pure2 (x := x) (y := y) rfl (by simp) fun md n0 cx H ρ w _ _ v1 v2 => ?_
    obtain ⟨h0, h1⟩ := hj
    refine ⟨.int .u8 c.toNat, ?_, V.mkval⟩
    have hs : s[j.toNat]? = some c := by
      have hlt := (List.getElem?_eq_some_iff.1 h1).1
      have hsz : j.toNat < s.size := by simpa using hlt
      have he := (List.getElem?_eq_some_iff.1 h1).2
      simp only [getElem?, decidableGetElem?, hsz, dif_pos]
      simp only [Array.getElem_toList] at he
      exact congrArg some he
    simp [execOp, Instr.index, asIntOf, v1.val, v2.val, hT w, h0, hs]) ho hg hx hy (by simp) h

def bytesC (l : List UInt8) : List (List SV) := l.map fun b => [.val (.int .u8 b.toNat)]

theorem VSR.bytes {pr : Nat → Nat} {w : World} {b : Nat} : ∀ {l : List UInt8} {off : Nat}, VSR pr w b off 1 (bytesC l) → ∀ j (hj : j < l.length), w.cell? ⟨b, off + j, none⟩ = some (.int .u8 (l[j].toNat : Int))
  | [], off, _, j, hj => by simp at hj
  | c :: l, off, h, j, hj => by
    simp only [bytesC, List.map_cons, VSR, VSC, VS] at h
    obtain ⟨_, ⟨⟨v, h1, _, h2⟩, _⟩, h3⟩ := h
    subst h2
    cases j with
    | zero => simpa using h1
    | succ j =>
      have := VSR.bytes (l := l) h3 j (by simpa using hj)
      rw [show off + 1 + j = off + (j + 1) from by omega] at this
      simpa using this

theorem R.toString {s t e : Nat} (hs : P.underlying s = some (.slice e)) (he : P.underlying e = some (.int .u8)) (ht : P.underlying t = some .string) {x : Operand} {gx : Bool} {l : List UInt8}
    (ho : all[i]? = some ⟨some d, .convert s t x, ty, pos, aft, gd⟩ := by rfl) (hg : GuardOk (en E) all gd g gn := by first | exact gN | exact gS rfl rfl)
    (hx : lvOf (en E) x = some (gx, .sv (.sl 1 (bytesC l))) := by rfl) (hgx : g = true → gx = true := by first | exact fun _ => rfl | exact id)
    (h : Reg P r N D B all (i + 1) ops ((i, Ct.p gn [x] [(gx, .sv (.sl 1 (bytesC l)))] (some d) (g, .s ⟨l.toArray⟩) []) :: tr) (st ((d, (g, .s ⟨l.toArray⟩)) :: E) L n) K) :
    Reg P r N D B all i (⟨some d, .convert s t x, ty, pos, aft, gd⟩ :: ops) tr (st E L n) K :=
  Reg.one rfl (fun h => by
    rw [entLV_true h hgx]
    refine OpC.of_pure1 (x := x) rfl (by simp) fun md n0 cx H ρ w _ _ hvv => ?_
    refine ⟨.string ⟨l.toArray⟩, ?_, V.mkval⟩
    simp only [V, VS] at hvv
    rcases hvv with ⟨h1 | ⟨ad, cap, h1, _⟩, h2⟩ | ⟨b, off, cap, h1, _, _, _, h3⟩
    · have hl : l = [] := by cases l with
        | nil => rfl
        | cons a l => simp [bytesC] at h2
      subst hl
      simp [execOp, h1, run_convert_bytes_nil (P := P) w s e hs he 0 0]
      have := run_convert_bytes_string (P := P) w s t e none 0 0 hs he ht
      rw [this]
      simp [Conv.bytesToString]
      rfl
    · have hl : l = [] := by cases l with
        | nil => rfl
        | cons a l => simp [bytesC] at h2
      subst hl
      have := run_convert_bytes_back (P := P) w s t e ad cap [] hs he ht (fun j hj => by simp at hj)
      simp only [List.length_nil] at this
      simp [execOp, h1, this]
    · have hlen : (bytesC l).length = l.length := by simp [bytesC]
      have := run_convert_bytes_back (P := P) w s t e ⟨b, off, none⟩ cap l hs he ht (fun j hj => by
        have hadd : (⟨b, off, none⟩ : Addr).add j = ⟨b, off + j, none⟩ := by unfold Addr.add; split <;> simp_all
        rw [hadd]; exact VSR.bytes h3 j hj)
      rw [hlen] at h1
      simp [execOp, h1, this]) ho hg hx (by simp) h

end

end Go.Proofs.YtnamkhifmankmaaDoor

/- Slices that grow: literals, append, lengths; results in cells; what is written no more. -/
namespace Go.Proofs.YtnamkhifmankmaaDoor

section
variable {P : Program} {r : Option Nat} {N : Nat} {D : List Nat} {B : Base} {Ψ : Exit → Act → World → Prop} {todo : List Item} {S : St}
variable {E : List (Nat × Ent)} {L : List (Nat × LO)} {n : Nat}

/-! ### results that lie in cells -/

theorem boxLoadA {T TB sz N : Nat} {o : Nat} {cs : List LV} (hF : AggF P T sz) {cx : Cx} {a : Act} {w : World} (hr : Rel B N D (st E L n) cx a w) {t : Nat}
    (ht : en E t = some (true, .ptr o 0)) (hb : hp L o = some (.box TB cs)) (hc : cs.length = sz) :
    ∃ v ad, a.tmps.getD t undef = .pointer (some ad) ∧ (loadVar T ad).run P w = .ok v w ∧ V cx w (.agg cs) v := by
  have hv := (hr.env t _ ht).1 rfl
  simp only [V] at hv
  obtain ⟨hA, b, hbk, he⟩ := hv
  obtain ⟨b', vs, k1, k2, k3⟩ := (hr.heap.ok o _ hb).2
  rw [k1] at hbk
  simp only [bk, Option.some.injEq] at hbk
  subst hbk
  refine ⟨.agg vs.toArray, _, he, ?_, by simp only [V]; exact ⟨vs, rfl, k3⟩⟩
  have hl : (loadCells ⟨b', 0, none⟩ vs.length).run P w = .ok vs.toArray w := run_loadCells_list (P := P) w ⟨b', 0, none⟩ vs (fun j v hv => by
    have hadd : (⟨b', 0, none⟩ : Addr).add j = ⟨b', j, none⟩ := by unfold Addr.add; split <;> simp_all
    rw [hadd]; simp [World.cell?, k2, hv])
  rw [k3.length, hc] at hl
  simp [loadVar, hF.1 w, hF.2 w, hl]

theorem resC {fn : Func} {t T TB sz o : Nat} {cs : List LV} (h : fn.results = #[.cell t T]) (hF : AggF P T sz) {m k : Nat} {Hi Ho : List (Nat × LO)} (hA : ∀ o, B.cx.A o ↔ o < m) (hmd : B.md = blks B.cx (hp Hi)) (hn : n = m + k)
    (hHo : ∀ o x, hp Ho o = some x → hp L o = some x) (ht : en E t = some (true, .ptr o 0)) (hb : hp L o = some (.box TB cs)) (hc : cs.length = sz) {e : Exit} (he : e = .normal ∨ e = .ret) :
    ∀ cx a w, Rel B N [] (st E L n) cx a w → FnPost P fn B m (.agg cs) Hi Ho k e a w := by
  intro cx a w hr
  obtain ⟨v, ad, h1, h2, h3⟩ := boxLoadA hF hr ht hb hc
  subst hn
  refine FnPost.of hA hmd hHo he hr (v := v) ?_ h3
  simp only [Array.getD_eq_getD_getElem?] at h1
  simp [results, h, h1, asAddr, h2]
theorem resC1 {fn : Func} {t T TB sz o u : Nat} {cs : List LV} {l : LV} (h : fn.results = #[.cell t T, .tmp u]) (hF : AggF P T sz) {m k : Nat} {Hi Ho : List (Nat × LO)} (hA : ∀ o, B.cx.A o ↔ o < m) (hmd : B.md = blks B.cx (hp Hi)) (hn : n = m + k)
    (hHo : ∀ o x, hp Ho o = some x → hp L o = some x) (ht : en E t = some (true, .ptr o 0)) (hb : hp L o = some (.box TB cs)) (hc : cs.length = sz) (hu : en E u = some (true, l)) {e : Exit} (he : e = .normal ∨ e = .ret) :
    ∀ cx a w, Rel B N [] (st E L n) cx a w → FnPost P fn B m (.tup [.agg cs, l]) Hi Ho k e a w := by
  intro cx a w hr
  obtain ⟨v, ad, h1, h2, h3⟩ := boxLoadA hF hr ht hb hc
  subst hn
  refine FnPost.of hA hmd hHo he hr (v := .tuple #[v, a.tmps.getD u undef]) ?_ ?_
  · simp only [Array.getD_eq_getD_getElem?] at h1
    simp [results, h, h1, asAddr, h2]
  · simp only [V] at h3 ⊢
    exact ⟨[_, _], rfl, by simp only [Vs]; exact ⟨_, _, rfl, by simp only [V]; exact h3, _, _, rfl, (hr.env u _ hu).1 rfl, rfl⟩⟩
theorem resC2 {fn : Func} {t T TB sz o u u' : Nat} {cs : List LV} {l l' : LV} (h : fn.results = #[.cell t T, .tmp u, .tmp u']) (hF : AggF P T sz) {m k : Nat} {Hi Ho : List (Nat × LO)} (hA : ∀ o, B.cx.A o ↔ o < m) (hmd : B.md = blks B.cx (hp Hi)) (hn : n = m + k)
    (hHo : ∀ o x, hp Ho o = some x → hp L o = some x) (ht : en E t = some (true, .ptr o 0)) (hb : hp L o = some (.box TB cs)) (hc : cs.length = sz) (hu : en E u = some (true, l)) (hu' : en E u' = some (true, l')) {e : Exit} (he : e = .normal ∨ e = .ret) :
    ∀ cx a w, Rel B N [] (st E L n) cx a w → FnPost P fn B m (.tup [.agg cs, l, l']) Hi Ho k e a w := by
  intro cx a w hr
  obtain ⟨v, ad, h1, h2, h3⟩ := boxLoadA hF hr ht hb hc
  subst hn
  refine FnPost.of hA hmd hHo he hr (v := .tuple #[v, a.tmps.getD u undef, a.tmps.getD u' undef]) ?_ ?_
  · simp only [Array.getD_eq_getD_getElem?] at h1
    simp [results, h, h1, asAddr, h2]
  · simp only [V] at h3 ⊢
    exact ⟨[_, _, _], rfl, by simp only [Vs]; exact ⟨_, _, rfl, by simp only [V]; exact h3, _, _, rfl, (hr.env u _ hu).1 rfl, _, _, rfl, (hr.env u' _ hu').1 rfl, rfl⟩⟩

/-! ### what is written no more -/

/-- closed cells -/
def svs : List LV → Option (List SV)
  | [] => some []
  | .sv s :: l => (svs l).map (s :: ·)
  | _ :: _ => none

theorem svs_eq : ∀ {l : List LV} {s : List SV}, svs l = some s → l = s.map LV.sv
  | [], s, h => by simp [svs] at h; subst h; rfl
  | .sv x :: l, s, h => by
    simp only [svs, Option.map_eq_some_iff] at h
    obtain ⟨t, h1, rfl⟩ := h
    simp [svs_eq h1]
  | .agg _ :: l, s, h => by simp [svs] at h
  | .tup _ :: l, s, h => by simp [svs] at h
  | .ptr _ _ :: l, s, h => by simp [svs] at h
  | .ref _ :: l, s, h => by simp [svs] at h
  | .fn _ _ _ :: l, s, h => by simp [svs] at h
  | .yld _ :: l, s, h => by simp [svs] at h
  | .sub _ _ _ _ :: l, s, h => by simp [svs] at h
  | .pv _ :: l, s, h => by simp [svs] at h

theorem VSC.of_list {pr : Nat → Nat} {w : World} {b : Nat} {cur : Array Value} {T : TypeId} (hg : w.heap[b]? = some (.cells cur T (0, 0))) : ∀ (cs : List SV) (vs : List Value) (off : Nat),
    vs.length = cs.length → (∀ j, j < vs.length → cur[off + j]? = vs[j]?) → (∀ u ∈ vs, u.oneCell' = true) → (∀ (j : Nat) (c : SV) (v : Value), cs[j]? = some c → vs[j]? = some v → VS pr w c v) → VSC pr w b off cs
  | [], vs, off, _, _, _, _ => by simp [VSC]
  | c :: cs, [], off, hl, _, _, _ => by simp at hl
  | c :: cs, v :: vs, off, hl, hc, h1, hv => by
    simp only [VSC]
    refine ⟨⟨v, ?_, h1 v (by simp), hv 0 c v rfl rfl⟩, VSC.of_list hg cs vs (off + 1) (by simpa using hl) (fun j hj => ?_) (fun u hu => h1 u (by simp [hu])) (fun j c' v' hc' hv' => hv (j + 1) c' v' (by simpa using hc') (by simpa using hv'))⟩
    · have := hc 0 (by simp)
      simp only [Nat.add_zero, List.getElem?_cons_zero] at this
      simp [World.cell?, hg, this]
    · have := hc (j + 1) (by simpa using hj)
      rw [show off + 1 + j = off + (j + 1) from by omega]
      simpa using this

theorem VSR.of_list {pr : Nat → Nat} {w : World} {b : Nat} {cur : Array Value} {T : TypeId} (hg : w.heap[b]? = some (.cells cur T (0, 0))) {sz : Nat} : ∀ (xs : List (List SV)) (vs : List Value) (off : Nat),
    (∀ e ∈ xs, e.length = sz) → vs.length = xs.length * sz → (∀ j, j < vs.length → cur[off + j]? = vs[j]?) → (∀ u ∈ vs, u.oneCell' = true) →
    (∀ (j : Nat) (c : SV) (v : Value), xs.flatten[j]? = some c → vs[j]? = some v → VS pr w c v) → VSR pr w b off sz xs
  | [], vs, off, _, _, _, _, _ => by simp [VSR]
  | e :: xs, vs, off, he, hl, hc, h1, hv => by
    have hel : e.length = sz := he e (by simp)
    simp only [List.length_cons, Nat.add_mul, Nat.one_mul] at hl
    simp only [VSR]
    refine ⟨hel, VSC.of_list hg e (vs.take sz) off (by simp; omega) (fun j hj => ?_) (fun u hu => h1 u (List.mem_of_mem_take hu)) (fun j c v hcj hvj => ?_), VSR.of_list hg xs (vs.drop sz) (off + sz) (fun e' he' => he e' (by simp [he'])) (by simp; omega) (fun j hj => ?_) (fun u hu => h1 u (List.mem_of_mem_drop hu)) (fun j c v hcj hvj => ?_)⟩
    · simp only [List.length_take] at hj
      rw [hc j (by omega), List.getElem?_take, if_pos (by omega)]
    · have hj : j < sz := by rw [← hel]; exact (List.getElem?_eq_some_iff.1 hcj).1
      rw [List.getElem?_take, if_pos hj] at hvj
      exact hv j c v (by rw [List.flatten_cons, List.getElem?_append_left (by omega)]; exact hcj) hvj
    · simp only [List.length_drop] at hj
      rw [List.getElem?_drop, show off + sz + j = off + (sz + j) from by omega]
      exact hc (sz + j) (by omega)
    · rw [List.getElem?_drop] at hvj
      refine hv (sz + j) c v ?_ hvj
      rw [List.flatten_cons, List.getElem?_append_right (by omega), hel, Nat.add_sub_cancel_left]; exact hcj

/-- slots that hold the slice of object o hold its elements from now on -/
def frzE (o : Nat) (s : SV) : List (Nat × Ent) → List (Nat × Ent)
  | [] => []
  | (t, (g, .ref q)) :: l => (t, (g, if q = o then .sv s else .ref q)) :: frzE o s l
  | (t, (g, e)) :: l => (t, (g, e)) :: frzE o s l
def delL (o : Nat) (L : List (Nat × LO)) : List (Nat × LO) := L.filter (fun p => !(p.1 == o))

theorem frzE_get {o : Nat} {s : SV} : ∀ {E : List (Nat × Ent)} {t : Nat} {e : Ent}, en (frzE o s E) t = some e → ∃ e0, en E t = some e0 ∧ e0.1 = e.1 ∧ (e0.2 = e.2 ∨ (e0.2 = .ref o ∧ e.2 = .sv s))
  | [], t, e, h => by simp [frzE] at h
  | (k, (g, lv)) :: E, t, e, h => by
    have step : ∀ x : LV, en ((k, (g, x)) :: frzE o s E) t = some e → (x = lv ∨ (lv = .ref o ∧ x = .sv s)) → ∃ e0, en ((k, (g, lv)) :: E) t = some e0 ∧ e0.1 = e.1 ∧ (e0.2 = e.2 ∨ (e0.2 = .ref o ∧ e.2 = .sv s)) := by
      intro x hx hxl
      simp only [en, List.lookup_cons] at hx ⊢
      cases hk : (t == k) with
      | true =>
        rw [hk] at hx; cases hx
        refine ⟨_, rfl, rfl, ?_⟩
        rcases hxl with rfl | ⟨rfl, rfl⟩
        · exact .inl rfl
        · exact .inr ⟨rfl, rfl⟩
      | false => rw [hk] at hx; exact frzE_get hx
    cases lv with
    | ref q =>
      simp only [frzE] at h
      by_cases hq : q = o
      · rw [if_pos hq] at h; exact step _ h (.inr ⟨by rw [hq], rfl⟩)
      · rw [if_neg hq] at h; exact step _ h (.inl rfl)
    | _ => simp only [frzE] at h; exact step _ h (.inl rfl)

/-- a slice that is written no more: its object goes, its elements stay -/
theorem Rel.freeze (o : Nat) {T sz : Nat} {xs : List (List LV)} {ys : List (List SV)} (hb : hp L o = some (.row T sz xs)) (hy : xs = ys.map (List.map LV.sv))
    {cx : Cx} {a : Act} {w : World} (hr : Rel B N D (st E L n) cx a w) : ∃ cx', Rel B N D (st (frzE o (.sl sz ys) E) (delL o L) n) cx' a w := by
  obtain ⟨hAo, hsz, vs, hown, hvs, hones⟩ := hr.heap.ok o _ hb
  -- the cells of this block are protected from now on
  let blk? := bk (cx.loc o)
  let pr' : Nat → Nat := fun b => if some b = bk (cx.loc o) then ys.length * sz else cx.pr b
  let c2 : Cx := ⟨pr', cx.A, cx.loc, cx.inn⟩
  have hpr0 : ∀ b, some b = bk (cx.loc o) → cx.pr b = 0 ∧ b < w.heap.size ∧ (B.w.heap.size ≤ b ∨ B.md b) := fun b hbb => hr.heap.own o _ b hb (.inl hbb.symm)
  have hext : Ext cx.pr w pr' w := fun b off hbo => by
    refine ⟨?_, rfl⟩
    show off < (if some b = bk (cx.loc o) then _ else _)
    split
    · rename_i hh; have := (hpr0 b hh).1; omega
    · exact hbo
  have hle : CxLe cx c2 := fun q hq => ⟨hq, rfl⟩
  have hyl : xs.length = ys.length := by rw [hy]; simp
  have hsl : ∀ x, x = cx.loc o → VS pr' w (.sl sz ys) x := by
    rintro x rfl
    simp only [VS]
    rcases hown.2 with ⟨e1, e2⟩ | ⟨gb, cap, cur, e1, _, e2, e3, e4, e5, e6⟩
    · left
      refine ⟨.inl e1, ?_⟩
      apply List.eq_nil_of_length_eq_zero; omega
    · right
      have hbk : some gb = bk (cx.loc o) := by rw [e1]; rfl
      refine ⟨gb, 0, cap, by rw [e1, hyl], by omega, e4, ?_, ?_⟩
      · show 0 + ys.length * sz ≤ (if some gb = bk (cx.loc o) then ys.length * sz else _)
        rw [if_pos hbk]; omega
      · have hvl : vs.length = ys.length * sz := by rw [hown.1, hyl]
        refine VSR.of_list e2 ys vs 0 (fun e he => ?_) hvl (fun j hj => ?_) hones (fun j c v hc hv => ?_)
        · have := hsz (e.map LV.sv) (by rw [hy]; exact List.mem_map.2 ⟨e, he, rfl⟩)
          simpa using this
        · rw [Nat.zero_add, ← e6, List.getElem?_take, if_pos (by rw [hyl, ← hvl]; exact hj)]
          simp
        · have hc' : xs.flatten[j]? = some (.sv c) := by
            rw [hy, ← List.map_flatten, List.getElem?_map, hc]
            rfl
          obtain ⟨v', hv', hV⟩ := hvs.get hc'
          rw [hv] at hv'; cases hv'
          simp only [V] at hV
          exact VS.mono hext c v hV
  have del : ∀ q x, hp (delL o L) q = some x → q ≠ o ∧ hp L q = some x := by
    intro q x hx
    simp only [delL, hp] at hx
    rw [lookup_filter (fun k => !(k == o))] at hx
    split at hx
    · rename_i hh
      exact ⟨by simpa using hh, hx⟩
    · cases hx
  refine ⟨c2, ⟨⟨hr.grow.os, hr.grow.tape, hr.grow.output, hr.grow.size, hr.grow.same, fun b hbs hmd => ?_, hr.grow.ext.trans hext⟩, hr.le.trans hle, hr.hA, ⟨fun q x hx => ?_, fun q x b hx hbq => ?_, fun q q' x x' b hne hx hx' hbq => ?_, fun b hbp => ?_⟩, hr.size, fun t e he => ?_, hr.df, hr.dA⟩⟩
  · show (if some b = bk (cx.loc o) then _ else cx.pr b) = _
    split
    · rename_i hh
      rcases (hpr0 b hh).2.2 with h1 | h1
      · omega
      · exact absurd h1 hmd
    · exact hr.grow.prs b hbs hmd
  · obtain ⟨_, hx'⟩ := del q x hx
    obtain ⟨k1, k2⟩ := hr.heap.ok q x hx'
    exact ⟨k1, ObjOk.mono hle hext k1 (fun _ _ _ => rfl) rfl k2⟩
  · obtain ⟨hne, hx'⟩ := del q x hx
    obtain ⟨k1, k2, k3⟩ := hr.heap.own q x b hx' hbq
    refine ⟨?_, k2, k3⟩
    show (if some b = bk (cx.loc o) then _ else cx.pr b) = 0
    rw [if_neg (fun hh => hr.heap.inj q o x _ b hne hx' hb hbq (.inl hh.symm))]
    exact k1
  · exact hr.heap.inj q q' x x' b hne (del q x hx).2 (del q' x' hx').2 hbq
  · change 0 < (if some b = bk (cx.loc o) then _ else cx.pr b) at hbp
    split at hbp
    · rename_i hh; exact (hpr0 b hh).2.1
    · exact hr.heap.lim b hbp
  · obtain ⟨e0, h1, h2, h3⟩ := frzE_get he
    have h0 := hr.env t e0 h1
    refine ⟨fun hg => ?_, fun hg => h0.2 (by rw [h2]; exact hg)⟩
    have hv := h0.1 (by rw [h2]; exact hg)
    rcases h3 with h3 | ⟨h3, h4⟩
    · rw [h3] at hv; exact V.mono hle hext _ _ hv
    · rw [h3] at hv
      rw [h4]
      simp only [V] at hv ⊢
      exact hsl _ hv.2.1
theorem LGo.freeze (o : Nat) {T sz : Nat} {xs : List (List LV)} {ys : List (List SV)} (hb : hp L o = some (.row T sz xs)) (hy : xs = ys.map (List.map LV.sv))
    (h : LGo P r N D B Ψ todo (st (frzE o (.sl sz ys) E) (delL o L) n)) : LGo P r N D B Ψ todo (st E L n) :=
  LGo.conv (fun cx a w hr => Rel.freeze o hb hy hr) h

end

end Go.Proofs.YtnamkhifmankmaaDoor

/- Slice literals; append; length and elements of a slice of one's own; the bytes of a string. -/
namespace Go.Proofs.YtnamkhifmankmaaDoor

theorem foldl_set : ∀ (vs : List Value) (k off : Nat) (C : Array Value), off + k + vs.length ≤ C.size →
    ((vs.zipIdx k).foldl (fun (cs : Array Value) p => cs.setIfInBounds (off + p.2) p.1) C).toList = C.toList.take (off + k) ++ vs ++ C.toList.drop (off + k + vs.length)
  | [], k, off, C, _ => by simp
  | v :: vs, k, off, C, h => by
    simp only [List.length_cons] at h
    simp only [List.zipIdx_cons, List.foldl_cons]
    have hs : (C.setIfInBounds (off + k) v).size = C.size := by simp
    rw [foldl_set vs (k + 1) off _ (by rw [hs]; omega)]
    have ht : (C.setIfInBounds (off + k) v).toList = C.toList.set (off + k) v := by simp
    rw [ht]
    have hlt : off + k < C.toList.length := by simp; omega
    rw [List.set_eq_take_append_cons_drop, if_pos hlt]
    have e1 : (List.take (off + k) C.toList).length = off + k := by simp; omega
    rw [List.take_append, e1, List.take_take, Nat.min_eq_right (by omega), show off + (k + 1) - (off + k) = 1 from by omega]
    rw [List.drop_append, e1, List.drop_of_length_le (l := List.take (off + k) C.toList) (by rw [e1]; omega), show off + (k + 1) + vs.length - (off + k) = vs.length + 1 from by omega]
    simp only [List.take_succ_cons, List.take_zero, List.drop_succ_cons, List.drop_drop, List.nil_append, List.length_cons, List.append_assoc, List.cons_append]
    congr 4
    all_goals omega

theorem fill_seq (sz : Nat) : ∀ (ps : List Value) (cells : List (List Value)) (k : Nat) (C : Array Value), ps.map Value.cells = cells.map List.toArray → (∀ c ∈ cells, c.length = sz) → (k + ps.length) * sz ≤ C.size →
    ∃ C', Instr.fill (fun i => some (i * sz, sz)) C ((ps.zipIdx k).map fun p => (p.2, p.1)) = some C' ∧ C'.toList = C.toList.take (k * sz) ++ cells.flatten ++ C.toList.drop ((k + ps.length) * sz)
  | [], cells, k, C, hc, _, _ => by
    have : cells = [] := by simpa using hc.symm
    subst this
    exact ⟨C, by simp [Instr.fill], by simp⟩
  | p :: ps, [], k, C, hc, _, _ => by simp at hc
  | p :: ps, c :: cells, k, C, hc, hs, hl => by
    simp only [List.map_cons, List.cons.injEq] at hc
    obtain ⟨h1, h2⟩ := hc
    have hcl : c.length = sz := hs c (by simp)
    simp only [List.length_cons] at hl
    have hk : (k + (ps.length + 1)) * sz = k * sz + sz + ps.length * sz := by rw [Nat.add_mul, Nat.add_mul]; omega
    simp only [List.zipIdx_cons, List.map_cons, Instr.fill, h1]
    rw [if_neg (by simp [hcl]; omega)]
    have hf : (c.toArray.zipIdx.foldl (fun (cs : Array Value) (x : Value × Nat) => cs.setIfInBounds (k * sz + x.2) x.1) C).toList = C.toList.take (k * sz) ++ c ++ C.toList.drop (k * sz + c.length) := by
      have := foldl_set c 0 (k * sz) C (by omega)
      simp only [Nat.add_zero] at this
      rw [← this, ← Array.foldl_toList]
      simp
    obtain ⟨C', g1, g2⟩ := fill_seq sz ps cells (k + 1) (c.toArray.zipIdx.foldl (fun (cs : Array Value) (x : Value × Nat) => cs.setIfInBounds (k * sz + x.2) x.1) C) h2 (fun c' hc' => hs c' (by simp [hc'])) (by
      have := congrArg List.length hf
      simp only [Array.length_toList, List.length_append, List.length_take, List.length_drop] at this
      rw [this, hcl]
      have : (k + 1 + ps.length) * sz = k * sz + sz + ps.length * sz := by rw [Nat.add_mul, Nat.add_mul]; omega
      omega)
    refine ⟨C', g1, ?_⟩
    rw [g2, hf]
    have e1 : (List.take (k * sz) C.toList ++ c).length = (k + 1) * sz := by simp [hcl, Nat.add_mul]; omega
    rw [List.take_append, e1, Nat.sub_self, List.take_zero, List.append_nil, List.take_of_length_le (by omega)]
    rw [List.drop_append, e1, List.drop_of_length_le (by rw [e1]; exact Nat.mul_le_mul_right _ (by omega)), List.drop_drop]
    simp only [List.nil_append, List.flatten_cons, List.append_assoc, List.length_cons]
    congr 4
    have : (k + 1 + ps.length) * sz = k * sz + sz + ps.length * sz := by rw [Nat.add_mul, Nat.add_mul]; omega
    rw [this, hk, hcl, Nat.add_mul]
    omega

/-- what an append on slices of type t asks of the types -/
def AppF (P : Program) (t e sz : Nat) : Prop := P.underlying t = some (.slice e) ∧
  ((P.info? e).map fun i => (i.size == sz && decide (i.bytes ≤ 32 * sz) && ((i.zero.map (·.cells.size)) == some sz))) = some true

theorem AppF.get {P : Program} {t e sz : Nat} (h : AppF P t e sz) : P.underlying t = some (.slice e) ∧ ∃ i z, P.info? e = some i ∧ i.zero = some z ∧ i.size = sz ∧ i.bytes ≤ 32 * sz ∧ z.cells.size = sz := by
  obtain ⟨h1, h2⟩ := h
  refine ⟨h1, ?_⟩
  cases hi : P.info? e with
  | none => rw [hi] at h2; simp at h2
  | some i =>
    rw [hi] at h2
    simp only [Option.map_some, Option.some.injEq, Bool.and_eq_true, beq_iff_eq, decide_eq_true_eq] at h2
    obtain ⟨⟨a, b⟩, c⟩ := h2
    cases hz : i.zero with
    | none => rw [hz] at c; simp at c
    | some z => rw [hz] at c; simp at c; exact ⟨i, z, rfl, hz, a, b, c⟩

section
variable {P : Program} {r : Option Nat} {N : Nat} {D : List Nat} {B : Base} {all : Array Oper} {K : List (Nat × Ct) → St → Prop}
variable {i : Nat} {ops : List Oper} {tr : List (Nat × Ct)} {E : List (Nat × Ent)} {L : List (Nat × LO)} {n : Nat} {g : Bool} {gn : List (Nat × Ent)}
variable {d ty : Nat} {pos : String} {aft : Array Edge} {gd : Option (Nat × Bool)}

/-- cells of several values -/
def CellsOfs : List LV → List (List LV) → Prop
  | [], cs => cs = []
  | l :: ls, cs => ∃ c r, cs = c :: r ∧ CellsOf l c ∧ CellsOfs ls r

theorem CellsOfs.nil : CellsOfs [] [] := rfl
theorem CellsOfs.cons {l : LV} {ls : List LV} {c : List LV} {cs : List (List LV)} (h : CellsOf l c) (t : CellsOfs ls cs) : CellsOfs (l :: ls) (c :: cs) := ⟨c, cs, rfl, h, t⟩

theorem CellsOfs.get : ∀ {ls : List LV} {cs : List (List LV)}, CellsOfs ls cs → ∀ {cx : Cx} {w : World} {vs : List Value}, Vs cx w ls vs →
    ∃ us : List (List Value), vs.map Value.cells = us.map List.toArray ∧ us.length = cs.length ∧ (∀ (j : Nat) (u : List Value) (c : List LV), us[j]? = some u → cs[j]? = some c → u.length = c.length) ∧ Vs cx w cs.flatten us.flatten ∧ ∀ u ∈ us.flatten, u.oneCell' = true
  | [], cs, h, cx, w, vs, hv => by
    simp only [CellsOfs] at h; subst h
    simp only [Vs] at hv; subst hv
    exact ⟨[], by simp, by simp, by simp, by simp [Vs], by simp⟩
  | l :: ls, cs, h, cx, w, vs, hv => by
    obtain ⟨c, r', rfl, h1, h2⟩ := h
    simp only [Vs] at hv
    obtain ⟨y, ys, rfl, hy, hys⟩ := hv
    obtain ⟨u, k1, k2, k3⟩ := h1 cx w y hy
    obtain ⟨us, g1, g2, g3, g4, g5⟩ := CellsOfs.get h2 hys
    refine ⟨u :: us, by simp [k1, g1], by simp [g2], fun j u' c' hu hc => ?_, by simp only [List.flatten_cons]; exact Vs.append k2 g4, fun v hv => ?_⟩
    · cases j with
      | zero => simp at hu hc; subst hu; subst hc; exact k2.length
      | succ j => exact g3 j u' c' (by simpa using hu) (by simpa using hc)
    · simp only [List.flatten_cons, List.mem_append] at hv
      rcases hv with hv | hv
      · exact k3 v hv
      · exact g5 v hv

theorem row_new {T sz : Nat} {md : Nat → Prop} {n0 : Nat} {H : Hp} {cx : Cx} {w w0 : World} (h : HOk md n0 cx H w) {o : Nat} (ho : ¬ cx.A o) (hw : w0.heap = w.heap ∧ w0.os = w.os ∧ w0.tape = w.tape ∧ w0.output = w.output)
    {xs : List (List LV)} {vs : List Value} (hsz : ∀ e ∈ xs, e.length = sz) (hv : Vs cx w xs.flatten vs) (hone : ∀ u ∈ vs, u.oneCell' = true) {cells : Array Value} {cap : Nat} (hlen : xs.length ≤ cap) (hcap : cap ≤ maxLen) (hcs : cells.size = cap * sz) (htk : cells.toList.take (xs.length * sz) = vs) :
    ∃ cx', Tr cx w (hp []) cx' (w0.alloc (.cells cells T)) (hp [(o, .row T sz xs)]) (· ∈ [o]) ∧ V cx' (w0.alloc (.cells cells T)) (.ref o) (.slice (some ⟨w.heap.size, 0, none⟩) xs.length cap) := by
  have hnew : (w0.alloc (.cells cells T)).heap[w.heap.size]? = some (.cells cells T) := by rw [← hw.1]; exact heap_alloc_new w0 _
  obtain ⟨cx', h1, h2, h3, h4⟩ := Tr.new (w0 := w0) h (ob := .cells cells T) (o := o) ho (lv := .slice (some ⟨w.heap.size, 0, none⟩) xs.length cap) (x := .row T sz xs) hw rfl (fun cx' e1 e2 e3 e4 => by
    have hvl : vs.length = xs.length * sz := by
      rw [hv.length, List.length_flatten]
      have : xs.map List.length = List.replicate xs.length sz := by
        rw [List.eq_replicate_iff]
        refine ⟨by simp, fun b hb => ?_⟩
        obtain ⟨e, he, rfl⟩ := List.mem_map.1 hb
        exact hsz e he
      rw [this]; simp
    refine ⟨hsz, vs, ⟨hvl, .inr ⟨w.heap.size, cap, cells, e1, Nat.zero_le _, hnew, hlen, hcap, hcs, htk⟩⟩, Vs.mono e3 (fun b off hb => ?_) _ vs hv, hone⟩
    rw [e4]
    refine ⟨hb, ?_⟩
    have := h.lim b (by omega)
    simp only [World.cell?, heap_alloc_old w0 (.cells cells T) (by rw [hw.1]; exact this), hw.1])
  refine ⟨cx', h1, ?_⟩
  simp only [V]
  exact ⟨h2, h3.symm, rfl⟩

theorem OpC.buildSlice {t e sz : Nat} (hF : AppF P t e sz) {o : Oper} {len : Nat} {parts : Array (Nat × Operand)} {xs : List Operand} {ls : List LV} {cs : List (List LV)}
    (ho : o.op = .buildSlice t len parts) (hdd : ∀ c, o.op ≠ .defer c) (hp' : parts.toList = xs.zipIdx.map (fun p => (p.2, p.1)))
    (hcs : CellsOfs ls cs) (hsz : (cs.all fun c => c.length == sz) = true) (hlen : cs.length = len) (hsm : len * sz ≤ 16777216) (hlm : len ≤ 16777216) (n : Nat) :
    OpC P r o ls [] [] (.ref n) [(n, .row e sz cs)] [n] := by
  have hl : o.op.operands.toList = xs := by
    rw [ho]
    show (parts.toList.map (·.2)).toArray.toList = xs
    rw [hp']
    simp only [List.map_map, List.toList_toArray]
    have : ((fun (x : Nat × Operand) => x.2) ∘ fun (p : Operand × Nat) => (p.2, p.1)) = Prod.fst := rfl
    rw [this]; simp
  refine OpC.of_run hdd (by simp) fun md n0 cx H ρ w hok _ _ hnew hv => ?_
  obtain ⟨ht, i0, z, hi, hz, hisz, _, hzs⟩ := hF.get
  rw [hl] at hv
  obtain ⟨us, g1, g2, g3, g4, g5⟩ := hcs.get hv
  have hcl : ∀ c ∈ cs, c.length = sz := fun c hc => by simpa using List.all_eq_true.1 hsz c hc
  have hul : ∀ u ∈ us, u.length = sz := by
    intro u hu
    obtain ⟨j, hj⟩ := List.getElem?_of_mem hu
    have hjl : j < cs.length := by rw [← g2]; exact (List.getElem?_eq_some_iff.1 hj).1
    rw [g3 j u cs[j] hj (List.getElem?_eq_getElem hjl)]
    exact hcl _ (List.getElem_mem hjl)
  have hxl : xs.length = len := by
    have h1 := congrArg List.length g1
    simp only [List.length_map] at h1
    omega
  have hus : us.flatten.length = len * sz := by
    rw [List.length_flatten]
    have : us.map List.length = List.replicate us.length sz := by
      rw [List.eq_replicate_iff]
      refine ⟨by simp, fun b hb => ?_⟩
      obtain ⟨e, he, rfl⟩ := List.mem_map.1 hb
      exact hul e he
    rw [this]; simp only [List.sum_replicate_nat]; rw [show us.length = len from by omega]
  let C0 : Array Value := (Array.range (len * sz)).map (fun k => (if len * sz = 0 then #[] else z.cells)[k % (if len * sz = 0 then #[] else z.cells).size]!)
  have hC0 : C0.size = len * sz := by simp [C0]
  obtain ⟨C', f1, f2⟩ := fill_seq sz (xs.map ρ) us 0 C0 g1 hul (by rw [List.length_map, hC0, hxl]; simp)
  have hC' : C'.toList = us.flatten := by
    rw [f2]
    simp only [Nat.zero_mul, List.take_zero, List.nil_append, Nat.zero_add, List.length_map, hxl]
    rw [List.drop_of_length_le (by simp [hC0])]; simp
  have hCs : C'.size = len * sz := by rw [← Array.length_toList, hC', hus]
  obtain ⟨cx', t1, hv'⟩ := row_new (T := e) (w0 := w) (xs := cs) (cells := C') (cap := len) hok (hnew n (by simp)) ⟨rfl, rfl, rfl, rfl⟩ hcl g4 g5 (by omega) (by unfold maxLen; omega) hCs (by rw [hC', hlen]; exact List.take_of_length_le (by omega))
  rw [hlen] at hv'
  refine ⟨_, _, _, cx', ?_, .inl rfl, t1, hv'⟩
  have hp2 : (parts.map fun x => (x.1, ρ x.2)).toList = ((xs.map ρ).zipIdx 0).map fun p => (p.2, p.1) := by
    rw [Array.toList_map, hp']
    simp only [List.map_map, List.zipIdx_map]
    rfl
  have hop : (parts.map fun x => (x.1, ρ x.2)) = (((xs.map ρ).zipIdx 0).map fun p => (p.2, p.1)).toArray := by rw [← hp2]
  have hbig : ¬ len * sz > 16777216 := by omega
  have hfill : Instr.fill (fun i => some (i * sz, sz)) ((Array.range (len * sz)).map (fun k => (if len * sz = 0 then #[] else z.cells)[k % (if len * sz = 0 then #[] else z.cells).size]!)) (((xs.map ρ).zipIdx 0).map fun p => (p.2, p.1)) = some C' := f1
  by_cases h0 : len * sz = 0
  · simp only [h0, if_true] at hfill
    simp [execOp, ho, Instr.buildSlice, run_underlying ht, sizeOf, typeInfo, hi, hisz, hop, h0, newRow]
    simp at hfill
    rw [hfill]
    simp
  · simp only [h0, if_false] at hfill
    simp only [execOp, ho, Instr.buildSlice, hop]
    simp [run_underlying ht, sizeOf, typeInfo, zeroValue, hi, hz, hisz, h0, newRow]
    rw [if_neg hbig]
    rw [hfill]
    simp


theorem R.buildSlice {t e sz : Nat} (hF : AppF P t e sz) {len : Nat} {parts : Array (Nat × Operand)} {xs : List Operand} {es : List Ent} {cs : List (List LV)}
    (ho : all[i]? = some ⟨some d, .buildSlice t len parts, ty, pos, aft, none⟩ := by rfl) (hp' : parts.toList = xs.zipIdx.map (fun p => (p.2, p.1)) := by rfl)
    (hx : xs.map (lvOf (en E)) = es.map some := by rfl) (hcs : CellsOfs (es.map entLV) cs := by repeat (first | exact CellsOfs.nil | refine CellsOfs.cons (CellsOf.one rfl) ?_ | refine CellsOfs.cons (CellsOf.agg rfl) ?_)) (hsz : (cs.all fun c => c.length == sz) = true := by rfl) (hlen : cs.length = len := by rfl)
    (hsm : len * sz ≤ 16777216 := by first | decide | omega) (hlm : len ≤ 16777216 := by first | decide | omega)
    (h : Reg P r N D B all (i + 1) ops ((i, ⟨needOf xs es, some d, (true, .ref n), [], [], [(n, .row e sz cs)], [n]⟩) :: tr) (st ((d, (true, .ref n)) :: E) ((n, .row e sz cs) :: L) (n + 1)) K) :
    Reg P r N D B all i (⟨some d, .buildSlice t len parts, ty, pos, aft, none⟩ :: ops) tr (st E L n) K := by
  have hl : (Oper.mk (some d) (.buildSlice t len parts) ty pos aft none).op.operands.toList = xs := by
    show (parts.toList.map (·.2)).toArray.toList = xs
    rw [hp']
    simp only [List.map_map, List.toList_toArray]
    have : ((fun (x : Nat × Operand) => x.2) ∘ fun (p : Operand × Nat) => (p.2, p.1)) = Prod.fst := rfl
    rw [this]; simp
  exact Reg.new (es := es) (rd := []) ho gN (by rw [hl]; exact Opnds.of_map hx) (by simp) (OpC.buildSlice hF rfl (by simp) hp' hcs hsz hlen hsm hlm n) (by rw [hl]; exact h)

end

end Go.Proofs.YtnamkhifmankmaaDoor

/- Append; the length and the elements of a slice of one's own. -/
namespace Go.Proofs.YtnamkhifmankmaaDoor

theorem Tr.mdle {cx cx' : Cx} {w w' : World} {Hi Ho : Hp} {new : Nat → Prop} (t : Tr cx w (hp []) cx' w' Ho new) : Tr cx w Hi cx' w' Ho new := by
  have hno : ∀ b, ¬ blks cx (hp []) b := fun b ⟨o, x, hx, _⟩ => by simp at hx
  exact ⟨t.le, t.A, ⟨t.grow.os, t.grow.tape, t.grow.output, t.grow.size, fun b hb _ => t.grow.same b hb (hno b), fun b hb _ => t.grow.prs b hb (hno b), t.grow.ext⟩,
    ⟨t.heap.ok, fun o x b hx hb => by
      obtain ⟨h1, h2, h3⟩ := t.heap.own o x b hx hb
      exact ⟨h1, h2, h3.imp id (fun h => absurd h (hno b))⟩, t.heap.inj, t.heap.lim⟩, fun o ho _ => t.inn o ho rfl⟩

/-- what is appended: ys, as cells -/
def SrcOk (P : Program) (tx sz : Nat) (lv : LV) (rd : List (Nat × LO)) (ys : List (List LV)) : Prop :=
  (∀ e ∈ ys, e.length = sz) ∧ ∀ (md : Nat → Prop) (n0 : Nat) (cx : Cx) (H : Hp) (w : World) (v : Value), HOk md n0 cx H w → (∀ o x, hp rd o = some x → H o = some x) → V cx w lv v →
    ∃ news, Src P sz tx v ys.length news w ∧ Vs cx w ys.flatten news

theorem SrcOk.row {P : Program} {tx e' sz T o : Nat} {ys : List (List LV)} (hk : P.underlying tx = some (.slice e')) (hs : ∀ e ∈ ys, e.length = sz) : SrcOk P tx sz (.ref o) [(o, .row T sz ys)] ys := by
  refine ⟨hs, fun md n0 cx H w v hok hrd hv => ?_⟩
  obtain ⟨_, _, vs, hown, hvs, hone⟩ := hok.ok o _ (hrd o (.row T sz ys) (by simp))
  simp only [V] at hv
  obtain ⟨_, rfl, _⟩ := hv
  refine ⟨vs, ?_, hvs⟩
  rcases hown.2 with ⟨e1, e2⟩ | ⟨gb, cap, cur, e1, _, e2, e3, e4, e5, e6⟩
  · have : vs = [] := List.eq_nil_of_length_eq_zero (by rw [hown.1, e2]; simp)
    rw [e1, this, e2]
    exact Src.ofNil w hk 0
  · rw [e1]
    refine Src.ofSlice w hk ⟨gb, 0, none⟩ ys.length cap vs hown.1 (fun j u hu => ?_) hone
    have hadd : (⟨gb, 0, none⟩ : Addr).add j = ⟨gb, j, none⟩ := by unfold Addr.add; split <;> simp_all
    rw [hadd]
    rw [← e6, List.getElem?_take] at hu
    split at hu
    · simp [World.cell?, e2]; simpa using hu
    · cases hu

theorem VSR.vals {pr : Nat → Nat} {w : World} {b sz : Nat} : ∀ {xs : List (List SV)} {off : Nat}, VSR pr w b off sz xs →
    ∃ vs : List Value, vs.length = xs.length * sz ∧ (∀ (j : Nat) (v : Value), vs[j]? = some v → w.cell? ⟨b, off + j, none⟩ = some v) ∧ (∀ u ∈ vs, u.oneCell' = true) ∧
      ∀ (cx : Cx), cx.pr = pr → Vs cx w (xs.map (List.map LV.sv)).flatten vs
  | [], off, _ => ⟨[], by simp, by simp, by simp, fun cx _ => by simp [Vs]⟩
  | e :: xs, off, h => by
    simp only [VSR] at h
    obtain ⟨h1, h2, h3⟩ := h
    obtain ⟨us, k1, k2, k3⟩ := h2.vals
    obtain ⟨vs, g1, g2, g3, g4⟩ := VSR.vals h3
    have hul : us.length = sz := by rw [k1, h1]
    refine ⟨us ++ vs, by simp [hul, g1, Nat.add_mul]; omega, fun j v hj => ?_, fun u hu => ?_, fun cx hcx => ?_⟩
    · rcases Nat.lt_or_ge j us.length with hlt | hge
      · rw [List.getElem?_append_left hlt] at hj; exact k2 j v hj
      · rw [List.getElem?_append_right hge] at hj
        have := g2 _ v hj
        rwa [show off + sz + (j - us.length) = off + j from by omega] at this
    · rcases List.mem_append.1 hu with hu | hu
      · obtain ⟨j, hj⟩ := List.getElem?_of_mem hu
        have hjl : j < e.length := by rw [← k1]; exact (List.getElem?_eq_some_iff.1 hj).1
        exact (k3 j e[j] u (List.getElem?_eq_getElem hjl) hj).1
      · exact g3 u hu
    · simp only [List.map_cons, List.flatten_cons]
      exact Vs.append (Vs.of_vs k1 (fun j c v h1 h2 => by rw [hcx]; exact (k3 j c v h1 h2).2)) (g4 cx hcx)

theorem SrcOk.sl {P : Program} {tx e' sz : Nat} {ys : List (List SV)} (hk : P.underlying tx = some (.slice e')) (hs : ∀ e ∈ ys, e.length = sz) : SrcOk P tx sz (.sv (.sl sz ys)) [] (ys.map (List.map LV.sv)) := by
  refine ⟨fun e he => ?_, fun md n0 cx H w v hok hrd hv => ?_⟩
  · obtain ⟨e', he', rfl⟩ := List.mem_map.1 he; rw [List.length_map]; exact hs e' he'
  · simp only [V, VS] at hv
    rcases hv with ⟨rfl | ⟨ad, cap, rfl, _⟩, rfl⟩ | ⟨b, off, cap, rfl, _, _, hp', hr⟩
    · exact ⟨[], Src.ofNil w hk 0, by simp [Vs]⟩
    · exact ⟨[], Src.ofSlice w hk ad 0 cap [] (by simp) (by simp) (by simp), by simp [Vs]⟩
    · obtain ⟨vs, g1, g2, g3, g4⟩ := hr.vals
      refine ⟨vs, ?_, g4 cx rfl⟩
      rw [List.length_map]
      refine Src.ofSlice w hk ⟨b, off, none⟩ ys.length cap vs g1 (fun j u hu => ?_) g3
      have hadd : (⟨b, off, none⟩ : Addr).add j = ⟨b, off + j, none⟩ := by unfold Addr.add; split <;> simp_all
      rw [hadd]; exact g2 j u hu

def bytesL (l : List UInt8) : List (List LV) := l.map fun b => [.y b.toNat]
theorem bytesL_eq (l : List UInt8) : (bytesC l).map (List.map LV.sv) = bytesL l := by simp [bytesC, bytesL]
theorem bytesL_len (l : List UInt8) : ∀ e ∈ bytesL l, e.length = 1 := by simp [bytesL]
theorem bytesC_len (l : List UInt8) : ∀ e ∈ bytesC l, e.length = 1 := by simp [bytesC]

theorem SrcOk.str {P : Program} {tx : Nat} {s : ByteArray} (hk : P.underlying tx = some .string) : SrcOk P tx 1 (.s s) [] (bytesL s.data.toList) := by
  refine ⟨bytesL_len _, fun md n0 cx H w v hok hrd hv => ?_⟩
  have := hv.val
  subst this
  refine ⟨byteCells s, ?_, ?_⟩
  · have := Src.ofString (P := P) w hk s
    have hl : (bytesL s.data.toList).length = s.size := by simp [bytesL]
    rw [hl]; exact this
  · have : ∀ l : List UInt8, Vs cx w (bytesL l).flatten (l.map fun b => Value.int .u8 b.toNat) := by
      intro l
      induction l with
      | nil => simp [bytesL, Vs]
      | cons a l ih =>
        simp only [bytesL, List.map_cons, List.flatten_cons, List.cons_append, List.nil_append, Vs] at ih ⊢
        exact ⟨_, _, rfl, V.mkval, ih⟩
    exact this _

theorem run_append_room2 {P : Program} (w : World) (t tx ty e : TypeId) (i : TypeInfo) (ht : P.underlying t = some (.slice e)) (hi : P.info? e = some i) (g sLen sCap : Nat) (cur : Array Value) (hg : w.heap[g]? = some (.cells cur e (0, 0)))
    (x : Value) (n : Nat) (news : List Value) (hs : Src P i.size tx x n news w) (hroom : sLen + n ≤ sCap) (hfit : sLen * i.size + news.length ≤ cur.size) :
    (Builtin.append_ #[t, tx] ty #[.slice (some ⟨g, 0, none⟩) sLen sCap, x]).run P w = .ok (.slice (some ⟨g, 0, none⟩) (sLen + n) sCap) (w.setRow g (cur.toList.take (sLen * i.size) ++ news ++ cur.toList.drop (sLen * i.size + news.length)).toArray) := by
  have hst := run_storeCells_at P g (sLen * i.size) e news 0 cur w hg (by simpa using hfit) hs.one
  simp only [Nat.add_zero] at hst
  rcases hs.kind with ⟨e', hk⟩ | hk <;> simp [Builtin.append_, run_underlying ht, run_underlying hk, sizeOf, typeInfo, hi, hs.len, hroom, hs.cells, Addr.add_lit, hst]

section
variable {P : Program} {r : Option Nat} {N : Nat} {D : List Nat} {B : Base} {all : Array Oper} {K : List (Nat × Ct) → St → Prop}
variable {i : Nat} {ops : List Oper} {tr : List (Nat × Ct)} {E : List (Nat × Ent)} {L : List (Nat × LO)} {n : Nat} {g : Bool} {gn : List (Nat × Ent)}
variable {d ty : Nat} {pos : String} {aft : Array Edge} {gd : Option (Nat × Bool)}

theorem flatten_len {sz : Nat} {xs : List (List LV)} (h : ∀ e ∈ xs, e.length = sz) : xs.flatten.length = xs.length * sz := by
  rw [List.length_flatten]
  have : xs.map List.length = List.replicate xs.length sz := by
    rw [List.eq_replicate_iff]
    refine ⟨by simp, fun b hb => ?_⟩
    obtain ⟨e, he, rfl⟩ := List.mem_map.1 hb
    exact h e he
  rw [this]; simp

/-- append on a slice of one's own, by its value -/
theorem run_append {t tx e sz : Nat} (hF : AppF P t e sz) (h0 : 0 < sz) {md : Nat → Prop} {n0 : Nat} {cx : Cx} {H : Hp} {w : World} (hok : HOk md n0 cx H w) {o o' : Nat} {xs ys : List (List LV)} (ho : H o = some (.row e sz xs)) (hnew : ¬ cx.A o')
    {x : Value} {news : List Value} (hs : Src P sz tx x ys.length news w) (hys : ∀ e ∈ ys, e.length = sz) (hnv : Vs cx w ys.flatten news) (hlen : (xs.length + ys.length) * sz ≤ 4398046511104) (ty : Nat) :
    ∃ v w' cx', (Builtin.append_ #[t, tx] ty #[cx.loc o, x]).run P w = .ok v w' ∧ Tr cx w (hp [(o, .row e sz xs)]) cx' w' (hp [(o', .row e sz (xs ++ ys))]) (· ∈ [o']) ∧ V cx' w' (.ref o') v := by
  obtain ⟨ht, i0, z, hi, hz, hisz, hiby, hzs⟩ := hF.get
  subst hisz
  obtain ⟨hAo, hxs, vs, hown, hvs, hone⟩ := hok.ok o _ ho
  have hall : ∀ e ∈ xs ++ ys, e.length = i0.size := fun e he => (List.mem_append.1 he).elim (hxs e) (hys e)
  have hvall : Vs cx w (xs ++ ys).flatten (vs ++ news) := by rw [List.flatten_append]; exact Vs.append hvs hnv
  have hone' : ∀ u ∈ vs ++ news, u.oneCell' = true := fun u hu => (List.mem_append.1 hu).elim (hone u) (hs.one u)
  have hnl : news.length = ys.length * i0.size := hs.newsLen
  have hvl : vs.length = xs.length * i0.size := hown.1
  have hsum : xs.length + ys.length ≤ 4398046511104 := Nat.le_trans (by have := Nat.mul_le_mul_left (xs.length + ys.length) h0; omega) hlen
  have hbytes : (xs.length + ys.length) * i0.bytes ≤ 140737488355328 := by
    have h1 : (xs.length + ys.length) * i0.bytes ≤ (xs.length + ys.length) * (32 * i0.size) := Nat.mul_le_mul_left _ hiby
    have h2 : (xs.length + ys.length) * (32 * i0.size) = 32 * ((xs.length + ys.length) * i0.size) := by rw [Nat.mul_left_comm]
    omega
  -- a new block
  have grown : ∀ (base : Option Addr) (cap : Nat), cap < xs.length + ys.length → cx.loc o = .slice base xs.length cap → (Builtin.firstCells i0.size xs.length (.slice base xs.length cap)).run P w.drew = .ok vs.toArray w.drew →
      ∃ v w' cx', (Builtin.append_ #[t, tx] ty #[cx.loc o, x]).run P w = .ok v w' ∧ Tr cx w (hp [(o, .row e i0.size xs)]) cx' w' (hp [(o', .row e i0.size (xs ++ ys))]) (· ∈ [o']) ∧ V cx' w' (.ref o') v := by
    intro base cap hcap hloc hold
    have hrun := run_append_grow_src (P := P) w t tx ty e i0 z ht hi hz base xs.length cap vs hold x ys.length news hs hcap (by omega) (growslice_fits hcap hbytes)
    have hge := grownCap_ge w (xs.length + ys.length) cap e
    have hcm := grownCap_le_maxLen w (xs.length + ys.length) cap e (by unfold maxLen; omega)
    obtain ⟨cx', h1, h2⟩ := row_new (T := e) (w0 := w.drew) (xs := xs ++ ys) (vs := vs ++ news) (cells := (vs ++ news).toArray ++ Builtin.zeroCells z.cells (grownCap w (xs.length + ys.length) cap e - (xs.length + ys.length))) (cap := grownCap w (xs.length + ys.length) cap e)
      hok hnew ⟨rfl, rfl, rfl, rfl⟩ hall hvall hone' (by rw [List.length_append]; exact hge) hcm (by
        simp only [Array.size_append, List.size_toArray, size_zeroCells, hzs, List.length_append, hvl, hnl, ← Nat.add_mul]
        congr 1; omega) (by
        simp only [Array.toList_append, List.length_append]
        have : (xs.length + ys.length) * i0.size = (vs ++ news).length := by rw [List.length_append, hvl, hnl, Nat.add_mul]
        rw [this]; exact List.take_left)
    rw [hloc]
    rw [List.length_append] at h2
    exact ⟨_, _, cx', hrun, h1.mdle, h2⟩
  rcases hown.2 with ⟨e1, e2⟩ | ⟨gb, cap, cur, e1, _, e2, e3, e4, e5, e6⟩
  · -- nil
    have hv0 : vs = [] := List.eq_nil_of_length_eq_zero (by rw [hvl, e2]; simp)
    have hx0 : xs = [] := List.eq_nil_of_length_eq_zero e2
    by_cases hy0 : ys.length = 0
    · have hy : ys = [] := List.eq_nil_of_length_eq_zero hy0
      subst hy hx0 hv0
      have hn0 : news = [] := List.eq_nil_of_length_eq_zero (by rw [hnl]; simp)
      subst hn0
      let cx' : Cx := ⟨cx.pr, fun k => cx.A k ∨ k ∈ [o'], fun k => if k = o' then .slice none 0 0 else cx.loc k, cx.inn⟩
      have hle : CxLe cx cx' := fun k hk => ⟨.inl hk, by
        show (if k = o' then _ else cx.loc k) = _
        rw [if_neg (by rintro rfl; exact hnew hk)]⟩
      have hlo : cx'.loc o' = .slice none 0 0 := by show (if o' = o' then _ else _) = _; simp
      have hAo' : cx'.A o' := .inr (by simp)
      have one : ∀ k y, hp [(o', LO.row e i0.size ([] ++ []))] k = some y → k = o' ∧ y = .row e i0.size [] := by
        intro k y hy
        simp only [hp, List.lookup_cons] at hy
        split at hy
        · rename_i hh; simp at hh; cases hy; exact ⟨hh, rfl⟩
        · simp at hy
      refine ⟨.slice none 0 0, w, cx', ?_, ⟨hle, fun k => Iff.rfl, Grow.refl _ _ _, ⟨fun k y hy => ?_, fun k y b hy hb => ?_, fun k k' y y' b hne hy hy' _ => ?_, hok.lim⟩, fun _ _ _ => rfl⟩, ?_⟩
      · rw [e1]
        have hc0 := hs.cells
        simp only [List.length_nil] at hc0
        rcases hs.kind with ⟨e', hk⟩ | hk <;> simp [Builtin.append_, run_underlying ht, run_underlying hk, sizeOf, typeInfo, hi, hs.len, hc0]
      · obtain ⟨rfl, rfl⟩ := one k y hy
        exact ⟨hAo', by simp, [], by rw [hlo]; exact World.ownsRow_nil w 0 e i0.size, by simp [Vs], by simp⟩
      · obtain ⟨rfl, rfl⟩ := one k y hy
        rw [Cx.has_of rfl, hlo] at hb; cases hb
      · obtain ⟨rfl, rfl⟩ := one k y hy
        obtain ⟨rfl, rfl⟩ := one k' y' hy'
        exact absurd rfl hne
      · simp only [V]; exact ⟨hAo', hlo.symm, rfl⟩
    · refine grown none 0 (by omega) (by rw [e1, e2]) ?_
      subst hv0
      simp [Builtin.firstCells]
  · by_cases hroom : xs.length + ys.length ≤ cap
    · have hfit : xs.length * i0.size + news.length ≤ cur.size := by
        rw [hnl, e5, ← Nat.add_mul]; exact Nat.mul_le_mul_right _ hroom
      have hrun := run_append_room2 (P := P) w t tx ty e i0 ht hi gb xs.length cap cur e2 x ys.length news hs hroom hfit
      let w' := w.setRow gb (cur.toList.take (xs.length * i0.size) ++ news ++ cur.toList.drop (xs.length * i0.size + news.length)).toArray
      have hbk : bk (cx.loc o) = some gb := by rw [e1]; rfl
      obtain ⟨hpr, hlt, hmd⟩ := hok.own o _ gb ho (.inl hbk)
      let cx' : Cx := ⟨cx.pr, fun k => cx.A k ∨ k ∈ [o'], fun k => if k = o' then .slice (some ⟨gb, 0, none⟩) (xs.length + ys.length) cap else cx.loc k, cx.inn⟩
      have hle : CxLe cx cx' := fun k hk => ⟨.inl hk, by
        show (if k = o' then _ else cx.loc k) = _
        rw [if_neg (by rintro rfl; exact hnew hk)]⟩
      have hlo : cx'.loc o' = .slice (some ⟨gb, 0, none⟩) (xs.length + ys.length) cap := by show (if o' = o' then _ else _) = _; simp
      have hAo' : cx'.A o' := .inr (by simp)
      have hsame : ∀ k, k ≠ gb → w'.heap[k]? = w.heap[k]? := fun k hk => setRow_other w gb k _ hk
      have hsz : w'.heap.size = w.heap.size := by simp [w', World.setRow]
      have hext : Ext cx.pr w cx.pr w' := fun b off hb => ⟨hb, by
        have hb' : b ≠ gb := by rintro rfl; omega
        simp only [World.cell?, hsame b hb']⟩
      have hblk : blks cx (hp [(o, .row e i0.size xs)]) gb := ⟨o, .row e i0.size xs, by simp, .inl hbk⟩
      have one : ∀ k y, hp [(o', LO.row e i0.size (xs ++ ys))] k = some y → k = o' ∧ y = .row e i0.size (xs ++ ys) := by
        intro k y hy
        simp only [hp, List.lookup_cons] at hy
        split at hy
        · rename_i hh; simp at hh; cases hy; exact ⟨hh, rfl⟩
        · simp at hy
      refine ⟨_, w', cx', by rw [e1]; exact hrun, ⟨hle, fun k => Iff.rfl, ⟨rfl, rfl, rfl, by omega, fun k _ hk => hsame k (by rintro rfl; exact hk hblk), fun _ _ _ => rfl, hext⟩, ⟨fun k y hy => ?_, fun k y b hy hb => ?_, fun k k' y y' b hne hy hy' _ => ?_, fun b hb => by have := hok.lim b hb; omega⟩, fun _ _ _ => rfl⟩, ?_⟩
      · obtain ⟨rfl, rfl⟩ := one k y hy
        refine ⟨hAo', hall, vs ++ news, ⟨by rw [List.length_append, List.length_append, hvl, hnl, Nat.add_mul], .inr ⟨gb, cap, _, by rw [hlo, List.length_append], Nat.zero_le _, setRow_heap w gb cur _ e _ e2, by rw [List.length_append]; exact hroom, e4, ?_, ?_⟩⟩, Vs.mono hle hext _ _ hvall, hone'⟩
        · simp only [List.size_toArray, List.length_append, List.length_take, List.length_drop, Array.length_toList]
          omega
        · rw [e6]
          have : (xs ++ ys).length * i0.size = (vs ++ news).length := by rw [List.length_append, List.length_append, hvl, hnl, Nat.add_mul]
          rw [this]; exact List.take_left
      · obtain ⟨rfl, rfl⟩ := one k y hy
        rw [Cx.has_of rfl, hlo] at hb; cases hb
        exact ⟨hpr, by rw [hsz]; exact hlt, .inr hblk⟩
      · obtain ⟨rfl, rfl⟩ := one k y hy
        obtain ⟨rfl, rfl⟩ := one k' y' hy'
        exact absurd rfl hne
      · simp only [V]; exact ⟨hAo', hlo.symm, rfl⟩
    · refine grown (some ⟨gb, 0, none⟩) cap (by omega) e1 ?_
      refine run_firstCells_some (P := P) w.drew i0.size xs.length ⟨gb, 0, none⟩ xs.length cap vs hvl (fun j u hu => ?_)
      have hadd : (⟨gb, 0, none⟩ : Addr).add j = ⟨gb, j, none⟩ := by unfold Addr.add; split <;> simp_all
      rw [hadd]
      rw [← e6, List.getElem?_take] at hu
      split at hu
      · have e2' : w.drew.heap[gb]? = some (.cells cur e (0, 0)) := e2
        simp [World.cell?, e2']; simpa using hu
      · cases hu

theorem updL_app (L : List (Nat × LO)) (o n : Nat) (x y : LO) : hp (updL L [(o, x)] [(n, y)]) = hp ((n, y) :: delL o L) := by
  funext k
  simp only [updL, delL, hp, List.map_cons, List.map_nil, List.cons_append, List.nil_append, List.lookup_cons]
  cases (k == n) with
  | true => rfl
  | false =>
    simp only []
    congr 2
    funext p
    by_cases hpo : p.1 = o <;> simp [hpo]

theorem R.append {t tx e sz : Nat} (hF : AppF P t e sz) {x y : Operand} {o : Nat} {xs ys : List (List LV)} {lv : LV} {rd : List (Nat × LO)}
    (ho : all[i]? = some ⟨some d, .call { callee := .builtin .append, args := #[x, y], argTypes := #[t, tx] }, ty, pos, aft, none⟩ := by rfl)
    (hx : lvOf (en E) x = some (true, .ref o) := by rfl) (hy : lvOf (en E) y = some (true, lv) := by rfl) (hb : hp L o = some (.row e sz xs) := by rfl)
    (hs : SrcOk P tx sz lv rd ys) (hrd : ∀ k x, hp rd k = some x → hp L k = some x) (h0 : 0 < sz := by decide) (hlen : (xs.length + ys.length) * sz ≤ 4398046511104)
    (h : Reg P r N D B all (i + 1) ops ((i, ⟨needOf [x, y] [(true, .ref o), (true, lv)], some d, (true, .ref n), rd, [(o, .row e sz xs)], [(n, .row e sz (xs ++ ys))], [n]⟩) :: tr) (st ((d, (true, .ref n)) :: E) ((n, .row e sz (xs ++ ys)) :: delL o L) (n + 1)) K) :
    Reg P r N D B all i (⟨some d, .call { callee := .builtin .append, args := #[x, y], argTypes := #[t, tx] }, ty, pos, aft, none⟩ :: ops) tr (st E L n) K := by
  refine Reg.gen (m := 1) (es := [(true, .ref o), (true, lv)]) (rd := rd) (Hi := [(o, .row e sz xs)]) (Ho := [(n, .row e sz (xs ++ ys))]) (out := .ref n) ho gN ⟨_, _, rfl, hx, _, _, rfl, hy, rfl⟩ hrd (fun k z hz => ?_) ?_ ?_
  · simp only [hp, List.lookup_cons] at hz
    split at hz
    · rename_i hh; simp at hh; cases hz; subst hh; exact hb
    · simp at hz
  · refine OpC.of_run (by simp) (by simp) fun md n0 cx H ρ w hok hrd' hHi hnew hv => ?_
    have hop : (Oper.mk (some d) (.call { callee := .builtin .append, args := #[x, y], argTypes := #[t, tx] }) ty pos aft none).op.operands.toList = [x, y] := rfl
    rw [hop] at hv
    obtain ⟨v1, v2⟩ := Vs.two hv
    simp only [entLV] at v1 v2
    obtain ⟨news, hsrc, hnv⟩ := hs.2 md n0 cx H w _ hok hrd' v2
    simp only [V] at v1
    obtain ⟨v, w', cx', h1, h2, h3⟩ := run_append (o' := n) hF h0 hok (hHi o (.row e sz xs) (by simp)) (hnew n (by simp)) hsrc hs.1 hnv hlen ty
    refine ⟨_, v, w', cx', ?_, .inl rfl, h2, h3⟩
    have hx' : ρ x = cx.loc o := v1.2.1
    simp [execOp, resolve, invoke, builtin, hx', h1]
  · have e1 : st (putL (some d) (true, .ref n) E) (updL L [(o, .row e sz xs)] [(n, .row e sz (xs ++ ys))]) (n + 1) = st ((d, (true, .ref n)) :: E) ((n, .row e sz (xs ++ ys)) :: delL o L) (n + 1) := by
      simp only [st, updL_app, putL]
    rw [e1]; exact h

/-- the nil slice, told as a slice of one's own that is empty -/
theorem LGo.nilRow {Ψ : Exit → Act → World → Prop} {todo : List Item} (t T sz : Nat) (ht : en E t = some (true, .v (.slice none 0 0)))
    (h : LGo P r N D B Ψ todo (st ((t, (true, .ref n)) :: E) ((n, .row T sz []) :: L) (n + 1))) : LGo P r N D B Ψ todo (st E L n) := by
  refine LGo.conv (fun cx a w hr => ?_) h
  have hA : ¬ cx.A n := by rw [hr.hA]; show ¬ n < n; omega
  let cx' : Cx := ⟨cx.pr, fun k => cx.A k ∨ k = n, fun k => if k = n then .slice none 0 0 else cx.loc k, cx.inn⟩
  have hle : CxLe cx cx' := fun k hk => ⟨.inl hk, by
    show (if k = n then _ else cx.loc k) = _
    rw [if_neg (by rintro rfl; exact hA hk)]⟩
  have hlo : cx'.loc n = .slice none 0 0 := by show (if n = n then _ else _) = _; simp
  have hext : Ext cx.pr w cx'.pr w := Ext.refl _ _
  have split : ∀ q x, hp ((n, .row T sz []) :: L) q = some x → (q = n ∧ x = .row T sz []) ∨ (q ≠ n ∧ hp L q = some x) := by
    intro q x hx
    simp only [hp, List.lookup_cons] at hx
    split at hx
    · rename_i hh; simp at hh; cases hx; exact .inl ⟨hh, rfl⟩
    · rename_i hh; simp at hh; exact .inr ⟨hh, hx⟩
  have old : ∀ q x, hp L q = some x → ∀ b, cx'.has q x b ↔ cx.has q x b := fun q x hx b => by unfold Cx.has; rw [(hle q (hr.heap.ok q x hx).1).2]
  refine ⟨cx', ⟨hr.grow, hr.le.trans hle, ?_, ⟨fun q x hx => ?_, fun q x b hx hb => ?_, fun q q' x x' b hne hx hx' hb => ?_, hr.heap.lim⟩, hr.size, fun s e he => ?_, ?_, fun o ho => .inl (hr.dA o ho)⟩⟩
  · funext k
    have : cx.A k ↔ k < n := by rw [hr.hA]
    exact propext ⟨fun h => by
      rcases h with h | h
      · have := this.1 h; show k < n + 1; omega
      · show k < n + 1; omega, fun h => by
      have h' : k < n + 1 := h
      rcases Nat.lt_or_ge k n with h1 | h1
      · exact .inl (this.2 h1)
      · exact .inr (by omega)⟩
  · rcases split q x hx with ⟨rfl, rfl⟩ | ⟨hq, hx'⟩
    · exact ⟨.inr rfl, by simp, [], by rw [hlo]; exact World.ownsRow_nil w 0 T sz, by simp [Vs], by simp⟩
    · obtain ⟨k1, k2⟩ := hr.heap.ok q x hx'
      exact ⟨.inl k1, ObjOk.mono hle hext k1 (fun _ _ _ => rfl) rfl k2⟩
  · rcases split q x hx with ⟨rfl, rfl⟩ | ⟨hq, hx'⟩
    · rw [Cx.has_of rfl, hlo] at hb; cases hb
    · rw [old q x hx'] at hb; exact hr.heap.own q x b hx' hb
  · rcases split q x hx with ⟨rfl, rfl⟩ | ⟨hq, hx1⟩
    · rw [Cx.has_of rfl, hlo] at hb; cases hb
    · rcases split q' x' hx' with ⟨rfl, rfl⟩ | ⟨hq', hx1'⟩
      · rw [Cx.has_of rfl, hlo]; simp [bk]
      · rw [old q x hx1] at hb; rw [old q' x' hx1']; exact hr.heap.inj q q' x x' b hne hx1 hx1' hb
  · simp only [en, List.lookup_cons] at he
    split at he
    · rename_i hh
      simp at hh
      cases he
      subst hh
      refine ⟨fun _ => ?_, fun h => by cases h⟩
      have := (hr.env s _ ht).1 rfl
      simp only [V, VS] at this ⊢
      rw [this]
      exact ⟨.inr rfl, hlo.symm, rfl⟩
    · exact (hr.env s e he).mono hle hext
  · rw [hr.df]
    exact List.map_congr_left (fun o ho => by simp only [mkd]; rw [(hle o (hr.dA o ho)).2])

end

end Go.Proofs.YtnamkhifmankmaaDoor

/- A range over a function: the caller's rule, the round, the iterator's contract; the marks at a function's end. -/
namespace Go.Proofs.YtnamkhifmankmaaDoor

section
variable {P : Program} {r : Option Nat} {N : Nat} {D : List Nat} {B : Base} {Ψ : Exit → Act → World → Prop} {todo : List Item} {S : St}
variable {E : List (Nat × Ent)} {L : List (Nat × LO)} {n : Nat}

theorem putObj_same (w : World) (b : Nat) (x : Obj) (h : b < w.heap.size) : (w.putObj b x).heap[b]? = some x := World.putObj_heap_same h

/-- the block of an object that is no row is laid anew -/
theorem Tr.put {md : Nat → Prop} {n0 : Nat} {H : Hp} {cx : Cx} {w : World} (h : HOk md n0 cx H w) {o : Nat} {x x' : LO} (ho : H o = some x) {b : Nat} (hb : bk (cx.loc o) = some b) (ob : Obj)
    (hx : Ext cx.pr w cx.pr (w.putObj b ob) → (w.putObj b ob).heap[b]? = some ob → ObjOk cx (w.putObj b ob) o x') (hbx : x.isBx = false := by rfl) (hbx' : x'.isBx = false := by rfl) :
    Tr cx w (hp [(o, x)]) cx (w.putObj b ob) (hp [(o, x')]) (· ∈ ([] : List Nat)) := by
  have hlt := (h.own o x b ho (.inl hb)).2.1
  exact Tr.set h ho hb ⟨rfl, rfl, rfl⟩ (by simp [World.putObj]) (fun k hk => World.putObj_heap_other hk) (fun hext => hx hext (putObj_same w b ob hlt)) hbx hbx'

/-- a mark at the function's end: the block of deferred calls is empty -/
theorem FnPost.mark {fn : Func} {m k od : Nat} {out : LV} {Hi Ho : List (Nat × LO)} (hod : hp L od = some (.raw (.deferred (some [])))) {e : Exit}
    (h : ∀ cx a w, Rel B N D (st E ((od, .raw (.deferred none)) :: L) n) cx a w → FnPost P fn B m out Hi Ho k e a w) :
    ∀ cx a w, Rel B N (od :: D) (st E L n) cx a w → FnPost P fn B m out Hi Ho k e a w := by
  intro cx a w hr
  obtain ⟨hA, b, hb, hg⟩ := hr.heap.ok od _ hod
  have t := Tr.put (x' := .raw (.deferred none)) hr.heap hod (show bk (cx.loc od) = some b by rw [hb]; rfl) (.deferred none) (fun _ hh => ⟨b, hb, hh⟩)
  have hr' := Rel.step (c := ⟨[], none, (true, .v undef), [], [(od, .raw (.deferred (some [])))], [(od, .raw (.deferred none))], []⟩) hr
    ⟨by simp, by simp, fun o x hx => by
      simp only [hp, List.lookup_cons] at hx
      split at hx
      · rename_i hh; simp at hh; cases hx; subst hh; exact hod
      · simp at hx, by simp⟩ (by simp) t (by simp) (v := undef) ⟨fun _ => V.mkval, fun h => by cases h⟩
  have hS : Ct.app ⟨[], none, (true, .v undef), [], [(od, .raw (.deferred (some [])))], [(od, .raw (.deferred none))], []⟩ (st E L n) = st E ((od, .raw (.deferred none)) :: L) n := by
    simp only [Ct.app, putE_putL, putL, upd_set]
    congr 1
    funext q; simp
  rw [hS] at hr'
  have hr2 : Rel B N D (st E ((od, .raw (.deferred none)) :: L) n) cx { a with defers := D.map (mkd cx) } (w.putObj b (.deferred none)) :=
    ⟨hr'.grow, hr'.le, hr'.hA, hr'.heap, hr'.size, hr'.env, rfl, fun o ho => hr'.dA o (List.mem_cons_of_mem _ ho)⟩
  obtain ⟨h1, h2⟩ := h cx _ _ hr2
  refine ⟨h1, ?_⟩
  have hd : a.defers = { target := .collected b, args := #[] } :: D.map (mkd cx) := by
    rw [hr.df]; simp [mkd, hb, bk]
  rw [hd]
  exact ⟨by simp, .inl ⟨b, _, rfl, run_takeDeferred hg, h2⟩⟩

theorem sg_id (M : Nat) : sg (List.range M) M = id := by
  funext o
  by_cases h : o < M
  · exact sg_range h
  · simp [sg, List.getD_eq_getElem?_getD, List.getElem?_eq_none (show (List.range M).length ≤ o by simp; omega)]
    omega
theorem LO.mapI_id : ∀ x : LO, x.mapI id = x
  | .box T cs => by simp [LO.mapI, mapIs_id]
  | .row T sz xs => by simp only [LO.mapI]; congr 1; exact (List.map_congr_left (fun a _ => mapIs_id a)).trans (List.map_id _)
  | .rs T sz ys => rfl
  | .bx T cs k Te sz ys => by simp [LO.mapI, mapIs_id]
  | .raw x => rfl
  | .loop fn N E ps a b st pd => by
    simp only [LO.mapI, mapE]
    congr 1
    exact (List.map_congr_left (fun p _ => by rw [Go.Proofs.YtnamkhifmankmaaDoor.mapI_id]; rfl)).trans (List.map_id _)

/-- a call by a contract that speaks of the caller's own names -/
theorem LC.useId {f M k : Nat} {lvs : List LV} {Hi Ho : List (Nat × LO)} {out : LV} (h : LC P f M lvs Hi out Ho k) {md : Nat → Prop} {n0 : Nat} {cx : Cx} {H : Hp} {w : World} {vs : List Value} (hok : HOk md n0 cx H w) (ham : Amb cx.pr w)
    (hA : ∀ o, cx.A o ↔ o < M) (hHi : ∀ p ∈ Hi, H p.1 = some p.2) (hv : Vs cx w lvs vs) :
    Calls P f vs.toArray w fun e w' => ∃ v cx', e = .returned v ∧ Tr cx w (hp Hi) cx' w' (hp Ho) (· ∈ List.range' M k) ∧ V cx' w' out v := by
  have h' : LC P f (List.range M).length lvs Hi out Ho k := by rw [List.length_range]; exact h
  have hid : ∀ l : List (Nat × LO), (l.map fun p => (sg (List.range M) M p.1, p.2.mapI (sg (List.range M) M))) = l := by
    intro l
    rw [sg_id]
    exact (List.map_congr_left (fun p _ => by rw [LO.mapI_id]; rfl)).trans (List.map_id _)
  have hvv : LV.mapIs (sg (List.range M) M) lvs = lvs := by rw [sg_id, mapIs_id]
  have := h'.use (n := M) List.nodup_range hok ham (fun o ho => (hA o).2 (by simpa using ho)) (fun p hp' => by rw [sg_id, LO.mapI_id]; exact hHi p hp') (fun i hi => by
    rw [hA]; simp only [List.mem_range'_1] at hi; omega) (by rw [hvv]; exact hv)
  rw [hid, hid, sg_id, mapI_id] at this
  exact this

end

/-- a call of 'yield' with vs, as the machine makes it: a round -/
def YC (P : Program) (vs : List Value) (w : World) (R : Ending → World → Prop) : Prop :=
  ∃ l args f tm assign body, vs = Value.func (.yield l) #[] #[] :: args ∧ (Instr.yield l args.toArray).run P w = .ok (.round l f tm assign body) w ∧
    ∀ r, RoundIn (FW r) 0 P l f tm assign body w R

theorem YC.mono {P : Program} (vs : List Value) (w : World) (R R' : Ending → World → Prop) (h : YC P vs w R) (hr : ∀ e w', R e w' → R' e w') : YC P vs w R' := by
  obtain ⟨l, args, f, tm, as, b, h1, h2, h3⟩ := h
  exact ⟨l, args, f, tm, as, b, h1, h2, fun r => (h3 r).mono hr⟩

/-- one call of the loop's body, by 'yield': from the objects L to L1; b: go on -/
def Yld (P : Program) (y : Nat) (lvs : List LV) (L : List (Nat × LO)) (b : Bool) (L1 : List (Nat × LO)) : Prop :=
  L1.map (·.1) = L.map (·.1) ∧ LCG (YC P) L.length (.yld y :: lvs) L (.b b) L1 0

/-- the calls of the loop's body with xs, one after the other, till it says no -/
inductive YRun (P : Program) (y : Nat) (C : List (Nat × LO) → Prop) : List (List LV) → List (Nat × LO) → List (Nat × LO) → Prop
  | nil {L : List (Nat × LO)} (h : C L) : YRun P y C [] L L
  | stop {x : List LV} {xs : List (List LV)} {L L1 : List (Nat × LO)} (h : C L) (hy : Yld P y x L false L1) (h1 : C L1) : YRun P y C (x :: xs) L L1
  | go {x : List LV} {xs : List (List LV)} {L L1 L2 : List (Nat × LO)} (h : C L) (hy : Yld P y x L true L1) (h1 : YRun P y C xs L1 L2) : YRun P y C (x :: xs) L L2

section
variable {P : Program} {N : Nat} {D : List Nat} {B : Base} {Ψ : Exit → Act → World → Prop} {todo : List Item} {S : St}
variable {E : List (Nat × Ent)} {L : List (Nat × LO)} {n : Nat}

/-- how a range over a function is left: at its end, or by the jump that a round has taken -/
def leftBy (P : Program) (N : Nat) (D : List Nat) (B : Base) (Ψ : Exit → Act → World → Prop) (todo : List Item) (S : St) : Option Code → Prop
  | none => LGo P none N D B Ψ todo S
  | some .ret => ∀ cx a w, Rel B N D S cx a w → Ψ .ret a w
  | some (.exit id) => ∃ k', exitTo id todo = some k' ∧ LGo P none N D B Ψ k' S
  | _ => False

theorem LGo.rangeFunc {f : Operand} {ps : Array Tmp} {assign body : Code} {gf : Nat} {cap : List LV} {L' : FuncId → List (Nat × LO)} {s' : LoopState} {pd : Option Code}
    (hf : lvOf (en E) f = some (true, .fn (.func gf) [] cap)) (hL : L.map (·.1) = List.range n) (hs' : s' ≠ .busy)
    (hit : ∀ fn, LC P gf (n + 2) (.yld (n + 1) :: cap) (L ++ [(n, .raw (.deferred (some []))), (n + 1, .loop fn N E ps assign body .ready none)]) (.tup []) (L' fn) 0)
    (hend : ∀ fn, hp (L' fn) (n + 1) = some (.loop fn N E ps assign body s' pd))
    (h : ∀ fn, leftBy P N (n :: D) B Ψ todo (st E ((n + 1, .loop fn N E ps assign body .exhausted pd) :: L' fn) (n + 2)) pd) :
    LGo P none N D B Ψ (.code (.rangeFunc f ps assign body) :: todo) (st E L n) := by
  refine ⟨fun cx a w hr b k cs hb => ?_⟩
  -- what follows the statement
  let Q : Exit → Act → World → Prop := fun e a' w' => ∃ fn cx', Rel B N (n :: D) (st E ((n + 1, .loop fn N E ps assign body .exhausted pd) :: L' fn) (n + 2)) cx' a' w' ∧
    (match pd with | none => e = .normal | some .ret => e = .ret | some (.exit id) => e = .exit id | _ => False)
  have key : (Code.rangeFunc f ps assign body).wpIn (FW none) 0 P Q a w := by
    refine wpIn_rangeFunc fun fn _ => ?_
    -- the two records
    have hfv := eval_of_lvOf hr hf rfl
    simp only [V, Vs] at hfv
    obtain ⟨us, vs, e1, rfl, e3⟩ := hfv
    have hnA : ¬ cx.A n := by rw [hr.hA]; show ¬ n < n; omega
    obtain ⟨c1, t1, hA1, hl1, hp1⟩ := Tr.new (w0 := w) hr.heap (ob := .deferred (some [])) (o := n) hnA (lv := .map (some w.heap.size)) (x := .raw (.deferred (some []))) ⟨rfl, rfl, rfl, rfl⟩ rfl
      (fun cx' h1 _ _ _ => ⟨w.heap.size, h1, heap_alloc_new w _⟩)
    have r1 := Rel.step (c := ⟨[], none, (true, .v undef), [], [], [(n, .raw (.deferred (some [])))], [n]⟩) hr ⟨by simp, by simp, by simp, by simp⟩ (by simp) t1 (by simp) (v := undef) ⟨fun _ => V.mkval, fun h => by cases h⟩
    have hS1 : Ct.app ⟨[], none, (true, .v undef), [], [], [(n, .raw (.deferred (some [])))], [n]⟩ (st E L n) = st E ((n, .raw (.deferred (some []))) :: L) (n + 1) := by
      simp only [Ct.app, putE_putL, putL, upd_new]
      congr 1
      funext q; simp only [List.mem_singleton, eq_iff_iff]; omega
    rw [hS1] at r1
    have hnA1 : ¬ c1.A (n + 1) := by rw [r1.hA]; show ¬ n + 1 < n + 1; omega
    obtain ⟨c2, t2, hA2, hl2, hp2⟩ := Tr.new (w0 := w.alloc (.deferred (some []))) r1.heap (ob := .loop { state := .ready, pending := none, fn := fn, tmps := a.tmps, params := ps, assign := assign, body := body, defers := w.heap.size }) (o := n + 1) hnA1
      (lv := .map (some (w.alloc (.deferred (some []))).heap.size)) (x := .loop fn N E ps assign body .ready none) ⟨rfl, rfl, rfl, rfl⟩ rfl
      (fun cx' h1 h2 h3 h4 => ⟨_, a.tmps, w.heap.size, by rw [h1]; rfl, heap_alloc_new _ _, hr.size, fun t e he => by
        refine (r1.env t e he).mono h3 (fun bb off hbo => ?_)
        rw [h4]
        refine ⟨hbo, ?_⟩
        have := r1.heap.lim bb (by omega)
        simp only [World.cell?, heap_alloc_old _ _ this]⟩)
    have r2 := Rel.step (c := ⟨[], none, (true, .v undef), [], [], [(n + 1, .loop fn N E ps assign body .ready none)], [n + 1]⟩) r1 ⟨by simp, by simp, by simp, by simp⟩ (by simp) t2 (by simp) (v := undef) ⟨fun _ => V.mkval, fun h => by cases h⟩
    have hS2 : Ct.app ⟨[], none, (true, .v undef), [], [], [(n + 1, .loop fn N E ps assign body .ready none)], [n + 1]⟩ (st E ((n, .raw (.deferred (some []))) :: L) (n + 1)) = st E ((n + 1, .loop fn N E ps assign body .ready none) :: (n, .raw (.deferred (some []))) :: L) (n + 2) := by
      simp only [Ct.app, putE_putL, putL, upd_new]
      congr 1
      funext q; simp only [List.mem_singleton, eq_iff_iff]; omega
    rw [hS2] at r2
    have hsz2 : (w.alloc (.deferred (some []))).heap.size = w.heap.size + 1 := by simp
    generalize hw2 : (w.alloc (.deferred (some []))).alloc (.loop { state := .ready, pending := none, fn := fn, tmps := a.tmps, params := ps, assign := assign, body := body, defers := w.heap.size }) = w2 at r2 t2
    -- the iterator
    have hall := hit fn
    have hle2 : CxLe cx c2 := t1.le.trans t2.le
    have hkeyL : ∀ p ∈ L, p.1 < n := fun p hp' => by
      have : p.1 ∈ L.map (·.1) := List.mem_map.2 ⟨p, hp', rfl⟩
      rw [hL] at this; simpa using this
    have hLL : ∀ p ∈ L ++ [(n, LO.raw (.deferred (some []))), (n + 1, LO.loop fn N E ps assign body .ready none)], hp ((n + 1, .loop fn N E ps assign body .ready none) :: (n, .raw (.deferred (some []))) :: L) p.1 = some p.2 := by
      intro p hp'
      rcases List.mem_append.1 hp' with hp' | hp'
      · have hlt := hkeyL p hp'
        have e1 : (p.1 == n + 1) = false := by simp; omega
        have e2 : (p.1 == n) = false := by simp; omega
        simp only [hp, List.lookup_cons, e1, e2]
        exact lookup_of_nodup (by rw [hL]; exact List.nodup_range) hp'
      · simp only [List.mem_cons, List.not_mem_nil, or_false] at hp'
        rcases hp' with rfl | rfl
        · have e1 : (n == n + 1) = false := by simp
          simp [hp, List.lookup_cons, e1]
        · simp [hp, List.lookup_cons]
    have hext2 : Ext cx.pr w c2.pr w2 := t1.grow.ext.trans t2.grow.ext
    have hargs : Vs c2 w2 (.yld (n + 1) :: cap) ([Value.func (.yield (w.heap.size + 1)) #[] #[]] ++ vs) := by
      simp only [Vs, List.cons_append, List.nil_append]
      refine ⟨_, _, rfl, ?_, Vs.mono hle2 hext2 _ _ e3⟩
      simp only [V]
      exact ⟨hA2, w.heap.size + 1, by rw [hl2, hsz2]; rfl, rfl⟩
    have hcall := hall.useId r2.heap (Amb.grow B.amb r2.grow) (fun o => by rw [r2.hA]) hLL hargs
    refine ⟨w.heap.size + 1, [{ target := .collected w.heap.size, args := #[] }], w2, { target := .fn (.func gf) vs.toArray, args := #[Value.func (.yield (w.heap.size + 1)) #[] #[]] }, w2, gf,
      ([Value.func (.yield (w.heap.size + 1)) #[] #[]] ++ vs).toArray, w2, ?_, ?_, fun _ _ => trivial, ?_, fun h => by simp [FW, Fence.wide] at h, ?_⟩
    · rw [← hw2]; exact run_enterLoop_outer fn a.tmps ps assign body
    · simp only [rangeCall, resolve, e1, Deferred.ofValue]
      simp [Act.eval]
    · have := hall.entr ([Value.func (.yield (w.heap.size + 1)) #[] #[]] ++ vs).toArray w2
      simp only [invoke]
      have he : (#[Value.func (.yield (w.heap.size + 1)) #[] #[]] : Array Value) ++ vs.toArray = ([Value.func (.yield (w.heap.size + 1)) #[] #[]] ++ vs).toArray := by apply Array.ext'; simp
      rw [he]; exact this
    · refine callsIn_FW (Calls.mono hcall ?_)
      rintro e w3 ⟨v, c3, rfl, t3, _⟩
      -- the record behind the call
      have r3 := Rel.step (c := ⟨[], none, (true, .v undef), [], L ++ [(n, .raw (.deferred (some []))), (n + 1, .loop fn N E ps assign body .ready none)], L' fn, []⟩) r2
        ⟨by simp, by simp, fun o x hx => hLL (o, x) (lookup_mem' hx), by simp⟩ (by simp) (by simpa using t3) (fun p hp' => by
          rcases hall.hos p hp' with h1 | h1
          · exact .inl h1
          · omega) (v := undef) ⟨fun _ => V.mkval, fun h => by cases h⟩
      have hS3 : Ct.app ⟨[], none, (true, .v undef), [], L ++ [(n, .raw (.deferred (some []))), (n + 1, .loop fn N E ps assign body .ready none)], L' fn, []⟩ (st E ((n + 1, .loop fn N E ps assign body .ready none) :: (n, .raw (.deferred (some []))) :: L) (n + 2)) = st E (L' fn) (n + 2) := by
        simp only [Ct.app, putE_putL, putL]
        congr 1
        · funext q
          simp only [Hp.upd]
          cases hq : hp (L' fn) q with
          | some x => rfl
          | none =>
            simp only []
            cases hq2 : hp (L ++ [(n, LO.raw (.deferred (some []))), (n + 1, LO.loop fn N E ps assign body .ready none)]) q with
            | some x => rfl
            | none =>
              simp only [hp, lookup_append'] at hq2
              cases hq3 : L.lookup q with
              | some x => rw [hq3] at hq2; cases hq2
              | none =>
                rw [hq3] at hq2
                simp only [List.lookup_cons, List.lookup_nil] at hq2
                cases h1 : (q == n) with
                | true => rw [h1] at hq2; cases hq2
                | false =>
                  rw [h1] at hq2
                  cases h2 : (q == n + 1) with
                  | true => rw [h2] at hq2; cases hq2
                  | false => simp [hp, List.lookup_cons, h1, h2, hq3]
        · funext q; simp
      rw [hS3] at r3
      obtain ⟨hA3, l3, T3, df3, hb3, hg3, hT3, hE3⟩ := r3.heap.ok (n + 1) _ (hend fn)
      have hl3 : l3 = w.heap.size + 1 := by
        have := (t3.le (n + 1) hA2).2
        rw [this, hl2, hsz2] at hb3
        simpa [bk] using hb3.symm
      have t4 := Tr.put (x' := .loop fn N E ps assign body .exhausted pd) r3.heap (hend fn) hb3 (.loop { state := .exhausted, pending := pd, fn := fn, tmps := T3, params := ps, assign := assign, body := body, defers := df3 })
        (fun hext hh => ⟨l3, T3, df3, hb3, hh, hT3, fun t e he => (hE3 t e he).mono (CxLe.refl _) hext⟩)
      have r4 := Rel.step (c := ⟨[], none, (true, .v undef), [], [(n + 1, .loop fn N E ps assign body s' pd)], [(n + 1, .loop fn N E ps assign body .exhausted pd)], []⟩) r3
        ⟨by simp, by simp, fun o x hx => by
          simp only [hp, List.lookup_cons] at hx
          split at hx
          · rename_i hh; simp at hh; cases hx; subst hh; exact hend fn
          · simp at hx, by simp⟩ (by simp) t4 (by simp) (v := undef) ⟨fun _ => V.mkval, fun h => by cases h⟩
      have hS4 : Ct.app ⟨[], none, (true, .v undef), [], [(n + 1, .loop fn N E ps assign body s' pd)], [(n + 1, .loop fn N E ps assign body .exhausted pd)], []⟩ (st E (L' fn) (n + 2)) = st E ((n + 1, .loop fn N E ps assign body .exhausted pd) :: L' fn) (n + 2) := by
        simp only [Ct.app, putE_putL, putL, upd_set]
        congr 1
        funext q; simp
      rw [hS4] at r4
      have hnb : bk (c3.loc n) = some w.heap.size := by
        rw [((t2.le.trans t3.le) n hA1).2, hl1]; rfl
      have r5 : Rel B N (n :: D) (st E ((n + 1, .loop fn N E ps assign body .exhausted pd) :: L' fn) (n + 2)) c3 { a with defers := [{ target := .collected w.heap.size, args := #[] }] ++ a.defers } (w3.putObj l3 (.loop { state := .exhausted, pending := pd, fn := fn, tmps := T3, params := ps, assign := assign, body := body, defers := df3 })) := by
        refine ⟨r4.grow, r4.le, r4.hA, r4.heap, r4.size, r4.env, ?_, fun o ho => ?_⟩
        · have hda : a.defers = D.map (mkd c3) := r4.df
          show [({ target := .collected w.heap.size, args := #[] } : Deferred)] ++ a.defers = _
          rw [hda]; simp [mkd, hnb]
        · rcases List.mem_cons.1 ho with rfl | ho
          · exact ((t2.le.trans t3.le) _ hA1).1
          · exact r4.dA o ho
      have hend' := run_endLoop (P := P) (w := w3) (l := l3) hg3 hs'
      rw [hl3] at hend'
      refine ⟨pd, _, hend', ?_⟩
      rw [← hl3]
      cases pd with
      | none => exact ⟨fn, c3, r5, rfl⟩
      | some c =>
        have hh := h fn
        cases c with
        | ret => exact wpIn_ret ⟨fn, c3, r5, rfl⟩
        | exit id => exact wpIn_exit ⟨fn, c3, r5, rfl⟩
        | _ => exact absurd hh (by simp [leftBy])
  obtain ⟨e, a', w', ⟨fn, cx', hr', he⟩, harr⟩ := key b (todo ++ k) cs hb trivial (by intro d hd; simp [FW, Fence.wide] at hd)
  have hh := h fn
  cases pd with
  | none =>
    simp only at he
    subst he
    obtain ⟨e2, a2, w2, hq2, harr2⟩ := LGo.go hh cx' a' w' hr' b k cs hb
    exact ⟨e2, a2, w2, hq2, .of_steps harr harr2⟩
  | some c =>
    cases c with
    | ret =>
      simp only at he
      subst he
      exact ⟨.ret, a', w', hh cx' a' w' hr', harr⟩
    | exit id =>
      simp only at he
      subst he
      obtain ⟨k', hk', hgo⟩ := hh
      obtain ⟨e2, a2, w2, hq2, harr2⟩ := LGo.go hgo cx' a' w' hr' b k cs hb
      exact ⟨e2, a2, w2, hq2, .of_steps (harr.1 _ (exitTo_append hk')) harr2⟩
    | _ => exact absurd hh (by simp [leftBy])

end

end Go.Proofs.YtnamkhifmankmaaDoor

/- One round of a range over a function, by a walk of the loop's body; a call of 'yield'; an iterator's contract. -/
namespace Go.Proofs.YtnamkhifmankmaaDoor

section
variable {P : Program} {N : Nat} {D : List Nat} {B : Base} {E : List (Nat × Ent)} {L : List (Nat × LO)} {n : Nat}

/-- the block of an object turns -/
theorem Rel.put {o b : Nat} {x x' : LO} {ob : Obj} {cx : Cx} {a : Act} {w : World} (hr : Rel B N D (st E L n) cx a w) (ho : hp L o = some x) (hb : bk (cx.loc o) = some b)
    (hx : Ext cx.pr w cx.pr (w.putObj b ob) → (w.putObj b ob).heap[b]? = some ob → ObjOk cx (w.putObj b ob) o x') (hbx : x.isBx = false := by rfl) (hbx' : x'.isBx = false := by rfl) :
    Rel B N D (st E ((o, x') :: L) n) cx a (w.putObj b ob) := by
  have t := Tr.put hr.heap ho hb ob hx hbx hbx'
  have h := Rel.step (c := ⟨[], none, (true, .v undef), [], [(o, x)], [(o, x')], []⟩) hr
    ⟨by simp, by simp, fun q y hq => by
      simp only [hp, List.lookup_cons] at hq
      split at hq
      · rename_i hh; simp at hh; cases hq; subst hh; exact ho
      · simp at hq, by simp⟩ (by simp) t (by simp) (v := undef) ⟨fun _ => V.mkval, fun h => by cases h⟩
  have hS : Ct.app ⟨[], none, (true, .v undef), [], [(o, x)], [(o, x')], []⟩ (st E L n) = st E ((o, x') :: L) n := by
    simp only [Ct.app, putE_putL, putL, upd_set]
    congr 1
    funext q; simp
  rw [hS] at h; exact h

/-- the slots at the start of a round -/
def psE (ps : List Tmp) (lvs : List LV) (E : List (Nat × Ent)) : List (Nat × Ent) := (ps.zip (lvs.map fun l => (true, l))).reverse ++ E

theorem psE_ok {cx : Cx} {w : World} : ∀ (ps : List Tmp) (lvs : List LV) (vs : List Value) (E : List (Nat × Ent)) (T : Array Value), (∀ p ∈ ps, p < T.size) → Vs cx w lvs vs →
    (∀ t e, E.lookup t = some e → EntOk cx w e (T.getD t undef)) →
    ∀ t e, (psE ps lvs E).lookup t = some e → EntOk cx w e (((ps.zip vs).foldl (fun T (p : Tmp × Value) => T.setIfInBounds p.1 p.2) T).getD t undef)
  | [], lvs, vs, E, T, hps, hv, hE, t, e, h => by simpa [psE] using hE t e (by simpa [psE] using h)
  | p :: ps, [], vs, E, T, hps, hv, hE, t, e, h => by
    simp only [Vs] at hv; subst hv
    simpa using hE t e (by simpa [psE] using h)
  | p :: ps, l :: lvs, vs, E, T, hps, hv, hE, t, e, h => by
    simp only [Vs] at hv
    obtain ⟨v, vs', rfl, hv1, hv2⟩ := hv
    have h' : (psE ps lvs ((p, (true, l)) :: E)).lookup t = some e := by
      have : psE (p :: ps) (l :: lvs) E = psE ps lvs ((p, (true, l)) :: E) := by simp [psE]
      rw [← this]; exact h
    simp only [List.zip_cons_cons, List.foldl_cons]
    refine psE_ok ps lvs vs' _ (T.setIfInBounds p v) (fun q hq => by simpa using hps q (List.mem_cons_of_mem _ hq)) hv2 (fun t' e' ht => ?_) t e h'
    simp only [List.lookup_cons] at ht
    split at ht
    · rename_i hh
      simp at hh; cases ht; subst hh
      have hlt := hps t' (by simp)
      refine ⟨fun _ => ?_, fun h => by cases h⟩
      simp [Array.getD_eq_getD_getElem?, hlt, hv1]
    · rename_i hh
      have hne : ¬ p = t' := fun h => by simp [h] at hh
      have := hE t' e' ht
      simpa [Array.getD_eq_getD_getElem?, Array.getElem?_setIfInBounds_ne hne] using this

/-- how a round may end -/
def RoundEnd (B : Base) (N : Nat) (L1 : List (Nat × LO)) (m y fn : Nat) (E : List (Nat × Ent)) (ps : Array Tmp) (assign body : Code) (b : Bool) : Exit → Act → World → Prop := fun e a w =>
  ∃ cx Le E2, Rel B N [] (st E2 Le m) cx a w ∧ hp Le y = some (.loop fn N E ps assign body .busy none) ∧ (∀ o x, hp L1 o = some x → o ≠ y → hp Le o = some x) ∧
    (match e with
     | .normal => b = true ∧ hp L1 y = some (.loop fn N E ps assign body .ready none)
     | .ret => b = false ∧ hp L1 y = some (.loop fn N E ps assign body .done (some .ret))
     | .exit id => b = false ∧ hp L1 y = some (.loop fn N E ps assign body .done (some (.exit id)))
     | _ => False)

def AssignEnd (B : Base) (N : Nat) (S : St) : Exit → Act → World → Prop := fun e a w => e = .normal ∧ ∃ cx, Rel B N [] S cx a w

theorem FW_inRound (r : Option Nat) (l : Nat) : (FW r).inRound l = FW (some l) := rfl

/-- one round: the assignment of yield's arguments, then the loop's body -/
theorem Yld.of_go {y fn : Nat} {lvs : List LV} {L1 : List (Nat × LO)} {b : Bool} {E1 : List (Nat × Ent)} {La : List (Nat × LO)} {m1 : Nat} {ps : Array Tmp} {assign body : Code}
    (hL : L.map (·.1) = List.range L.length) (hlt : ∀ p ∈ L, p.2.lt L.length = true) (hargs : LV.lts L.length lvs = true) (hy : hp L y = some (.loop fn N E ps assign body .ready none)) (hya : hp La y = some (.loop fn N E ps assign body .ready none))
    (hps : ps.size = lvs.length) (hpN : ∀ p ∈ ps.toList, p < N) (hos : L1.map (·.1) = L.map (·.1))
    (hA : ∀ (l : Nat) (B : Base), (∀ o, B.cx.A o ↔ o < L.length) → B.md = blks B.cx (hp L) → LGo P (some l) N [] B (AssignEnd B N (st E1 La m1)) [.code assign] (st (psE ps.toList lvs E) L L.length))
    (hB : ∀ (l : Nat) (B : Base), (∀ o, B.cx.A o ↔ o < L.length) → B.md = blks B.cx (hp L) →
      LGo P (some l) N [] B (RoundEnd B N L1 L.length y fn E ps assign body b) [.code body] (st E1 ((y, .loop fn N E ps assign body .busy none) :: La) m1)) :
    Yld P y lvs L b L1 := by
  have hyL : y < L.length := by
    have : y ∈ L.map (·.1) := List.mem_map.2 ⟨_, lookup_mem' hy, rfl⟩
    rw [hL] at this; simpa using this
  refine ⟨hos, by simp [LV.lts, LV.lt, hargs, hyL], hL, hlt, fun p hp' => .inl (by rw [← hos]; exact List.mem_map.2 ⟨p, hp', rfl⟩), fun cx w vs hcA hh ham hv => ?_⟩
  simp only [Vs] at hv
  obtain ⟨fv, args, rfl, hfv, hva⟩ := hv
  simp only [V] at hfv
  obtain ⟨hAy, l, hbl, rfl⟩ := hfv
  obtain ⟨_, l', T, df, hbl', hg, hT, hE⟩ := hh.ok y _ hy
  have hll : l' = l := by rw [hbl] at hbl'; cases hbl'; rfl
  subst hll
  have hal : args.length = lvs.length := hva.length
  have hyd := run_yield (P := P) (args := args.toArray) hg (by simp [hps, hal])
  refine ⟨l', args, _, _, _, _, rfl, hyd, fun r => roundIn_of_wpIn trivial ?_⟩
  rw [FW_inRound]
  let B : Base := ⟨cx, w, blks cx (hp L), ham, fun b ⟨o, x, hx, hb⟩ => (hh.own o x b hx hb).1⟩
  have hfold : (ps.zip args.toArray).foldl (fun tmps (x : Tmp × Value) => tmps.setIfInBounds x.1 x.2) T = (ps.toList.zip args).foldl (fun T (p : Tmp × Value) => T.setIfInBounds p.1 p.2) T := by
    rw [← Array.foldl_toList, Array.toList_zip]
  have hsz : ∀ (q : List (Tmp × Value)) (T : Array Value), (q.foldl (fun T (p : Tmp × Value) => T.setIfInBounds p.1 p.2) T).size = T.size := by
    intro q
    induction q with
    | nil => intro T; rfl
    | cons p q ih => intro T; simp only [List.foldl_cons]; rw [ih]; simp
  have hrel : Rel B N [] (st (psE ps.toList lvs E) L L.length) cx { tmps := (ps.toList.zip args).foldl (fun T (p : Tmp × Value) => T.setIfInBounds p.1 p.2) T, defers := [] } w := by
    refine ⟨Grow.refl _ _ _, CxLe.refl _, funext fun o => propext (hcA o), ⟨hh.ok, fun o x b hx hb => ?_, hh.inj, hh.lim⟩, ?_, ?_, rfl, by simp⟩
    · obtain ⟨h1, h2, _⟩ := hh.own o x b hx hb
      exact ⟨h1, h2, .inr ⟨o, x, hx, hb⟩⟩
    · show Array.size _ = N
      rw [hsz]; exact hT
    · exact psE_ok ps.toList lvs args E T (fun p hp' => by rw [hT]; exact hpN p hp') hva hE
  intro fb k cs hro _ _
  obtain ⟨e, a1, w1, ⟨rfl, cx1, hr1⟩, harr⟩ := (hA l' B hcA rfl).go cx _ w hrel fb k cs hro
  have hfold' : ((ps.zip args.toArray).foldl (fun tmps x => match x with | (t, a) => tmps.setIfInBounds t a) T) = (ps.toList.zip args).foldl (fun T (p : Tmp × Value) => T.setIfInBounds p.1 p.2) T := hfold
  refine ⟨.normal, a1, w1, ?_, by rw [hfold']; exact harr⟩
  obtain ⟨_, l1, T1, df1, hb1, hg1, hT1, hE1⟩ := hr1.heap.ok y _ hya
  have hbl1 : bk (cx1.loc y) = some l' := by rw [(hr1.le y hAy).2]; exact hbl
  have hl1 : l1 = l' := by rw [hbl1] at hb1; cases hb1; rfl
  subst hl1
  refine ⟨_, run_beginRound hg1 rfl, ?_⟩
  have hr2 := hr1.put (x' := .loop fn N E ps assign body .busy none) hya hb1 (ob := .loop { state := .busy, pending := none, fn := fn, tmps := T1, params := ps, assign := assign, body := body, defers := df1 })
    (fun hext hh' => ⟨l1, T1, df1, hb1, hh', hT1, fun t e he => (hE1 t e he).mono (CxLe.refl _) hext⟩)
  intro fb2 k2 cs2 hro2 _ _
  obtain ⟨e2, a2, w2, ⟨cx2, Le, E2, hr3, hey, heL, hend⟩, harr2⟩ := (hB l1 B hcA rfl).go cx1 a1 _ hr2 fb2 k2 cs2 hro2
  refine ⟨e2, a2, w2, ?_, harr2⟩
  obtain ⟨_, l2, T2, df2, hb2, hg2, hT2, hE2⟩ := hr3.heap.ok y _ hey
  have hbl2 : bk (cx2.loc y) = some l1 := by rw [(hr3.le y hAy).2]; exact hbl
  have hl2 : l2 = l1 := by rw [hbl2] at hb2; cases hb2; rfl
  subst hl2
  -- the round's end, by the jump
  have fin : ∀ (jump : Option Code), b = jump.isNone → hp L1 y = some (.loop fn N E ps assign body (if jump.isNone then .ready else .done) jump) →
      ∃ v w4, (Instr.endRound l2 jump).run P w2 = .ok v w4 ∧ ∃ v' cx', Ending.returned v = .returned v' ∧ Tr cx w (hp L) cx' w4 (hp L1) (fun o => L.length ≤ o ∧ o < L.length + 0) ∧ V cx' w4 (.b b) v' := by
    intro jump hbj hyj
    have hr4 := hr3.put (x' := .loop fn N E ps assign body (if jump.isNone then .ready else .done) jump) hey hb2 (ob := .loop { state := if jump.isNone then .ready else .done, pending := jump, fn := fn, tmps := T2, params := ps, assign := assign, body := body, defers := df2 })
      (fun hext hh' => ⟨l2, T2, df2, hb2, hh', hT2, fun t e he => (hE2 t e he).mono (CxLe.refl _) hext⟩)
    have hsub : ∀ o x, hp L1 o = some x → hp ((y, .loop fn N E ps assign body (if jump.isNone then .ready else .done) jump) :: Le) o = some x := by
      intro o x hx
      simp only [hp, List.lookup_cons]
      by_cases hoy : o = y
      · subst hoy; simp only [beq_self_eq_true]; exact hyj.symm.trans hx
      · have : (o == y) = false := by simpa using hoy
        rw [this]; exact heL o x hx hoy
    refine ⟨_, _, run_endRound jump hg2, _, cx2, rfl, ⟨hr4.le, fun o => ?_, hr4.grow, ⟨fun o x hx => hr4.heap.ok o x (hsub o x hx), fun o x b hx hb => hr4.heap.own o x b (hsub o x hx) hb, fun o o' x x' b hne hx hx' hb => hr4.heap.inj o o' x x' b hne (hsub o x hx) (hsub o' x' hx') hb, hr4.heap.lim⟩, fun o ho hn => absurd hn (hp_range hL ((hcA o).1 ho))⟩, ?_⟩
    · rw [hr4.hA, hcA]
      show o < L.length ↔ _
      omega
    · subst hbj; exact V.mkval
  cases e2 with
  | normal => exact fin none hend.1 hend.2
  | ret => exact fin (some .ret) hend.1 hend.2
  | exit id => exact fin (some (.exit id)) hend.1 hend.2
  | goto t => exact hend.elim
  | panic c => exact hend.elim
  | outgrown => exact hend.elim

end

section
variable {P : Program} {r : Option Nat} {N : Nat} {D : List Nat} {B : Base} {all : Array Oper} {i : Nat} {ops : List Oper} {tr : List (Nat × Ct)} {E : List (Nat × Ent)} {L : List (Nat × LO)} {n : Nat} {K : List (Nat × Ct) → St → Prop}
variable {d ty : Nat} {pos : String} {aft : Array Edge}

theorem OpC.yld {y : Nat} {lvs : List LV} {Lc Lc1 : List (Nat × LO)} {b : Bool} (hc : Yld P y lvs Lc b Lc1) {o : Oper} {c : Go.Call} {fo : Operand} (ho : o.op = .call c) (hcl : c.callee = .value fo) :
    OpC P r o (.yld y :: lvs) [] Lc (.b b) Lc1 [] := by
  obtain ⟨hkeys, h⟩ := hc
  refine ⟨fun p hp' => .inl (by rw [← hkeys]; exact List.mem_map.2 ⟨p, hp', rfl⟩), fun md n0 cx H a w K Q hok ham hrd hHi hnew hv hK => ?_⟩
  have hop : o.op.operands.toList = fo :: c.args.toList := by simp [ho, Op.operands, Go.Call.operands, hcl]
  rw [hop] at hv
  have h' : LCG (YC P) (List.range Lc.length).length (.yld y :: lvs) Lc (.b b) Lc1 0 := by rw [List.length_range]; exact h
  have hσ : ∀ l : List (Nat × LO), (l.map fun p => (sg (List.range Lc.length) Lc.length p.1, p.2.mapI (sg (List.range Lc.length) Lc.length))) = l := by
    intro l
    rw [sg_id]
    exact (List.map_congr_left (fun p _ => by rw [LO.mapI_id]; rfl)).trans (List.map_id _)
  have hH : ∀ p ∈ Lc, H p.1 = some p.2 := fun p hp' => hHi _ _ (lookup_of_nodup (by rw [h.rng]; exact List.nodup_range) hp')
  have hu := h'.use (n := Lc.length) YC.mono List.nodup_range hok ham (fun o ho => by
      rw [← h.rng] at ho
      obtain ⟨p, hp', rfl⟩ := List.mem_map.1 ho
      exact (hok.ok _ _ (hH p hp')).1) (fun p hp' => by rw [sg_id, LO.mapI_id]; exact hH p hp') (fun i hi => by simp at hi) (by rw [sg_id, mapIs_id]; exact hv)
  rw [hσ, hσ, sg_id, mapI_id] at hu
  obtain ⟨l, args, f, tm, as, body, h1, h2, h3⟩ := hu
  simp only [List.map_cons, List.cons.injEq] at h1
  obtain ⟨e1, e2⟩ := h1
  have e3 : Array.map a.eval c.args = args.toArray := by apply Array.ext'; simp [e2]
  have hrun : (execOp a.eval o).run P w = .ok (.round l f tm as body) w := by
    unfold execOp
    simp only [ho, resolve, hcl, e1, Deferred.ofValue, Sem.run_bind, Sem.run_pure, Result.andThen_ok, invoke]
    simpa [e3] using h2
  refine ⟨fun _ _ => trivial, ?_⟩
  rw [Oper.semAt_eq _ _ _ (by rw [ho]; simp), hrun, Oper.uponIn_round]
  refine ⟨fun h => by simp [FW, Fence.wide] at h, (h3 r).mono ?_⟩
  rintro e w' ⟨v, cx', rfl, t, hvo⟩
  exact hK cx' w' v (by simpa using t) hvo

/-- a call of 'yield' -/
theorem R.callYld {y : Nat} {fo : Operand} {args : Array Operand} {ats : Array TypeId} {es : List Ent} {lvs : List LV} {Lc Lc1 : List (Nat × LO)} {b : Bool} (hc : Yld P y lvs Lc b Lc1)
    (ho : all[i]? = some ⟨some d, .call { callee := .value fo, args := args, argTypes := ats }, ty, pos, aft, none⟩ := by rfl)
    (hf : lvOf (en E) fo = some (true, .yld y) := by rfl)
    (hx : args.toList.map (lvOf (en E)) = es.map some := by rfl) (hes : es.map entLV = lvs := by rfl) (hL : ∀ k x, hp Lc k = some x → hp L k = some x)
    (h : Reg P r N D B all (i + 1) ops ((i, ⟨needOf (fo :: args.toList) ((true, .yld y) :: es), some d, (true, .b b), [], Lc, Lc1, []⟩) :: tr) (st ((d, (true, .b b)) :: E) (Lc1 ++ L) n) K) :
    Reg P r N D B all i (⟨some d, .call { callee := .value fo, args := args, argTypes := ats }, ty, pos, aft, none⟩ :: ops) tr (st E L n) K := by
  have hl : (Oper.mk (some d) (.call { callee := .value fo, args := args, argTypes := ats }) ty pos aft none).op.operands.toList = fo :: args.toList := by simp [Op.operands, Go.Call.operands]
  have hop : Opnds (en E) (fo :: args.toList) ((true, .yld y) :: es) := ⟨_, _, rfl, hf, Opnds.of_map hx⟩
  refine Reg.cons (c := ⟨needOf (fo :: args.toList) ((true, .yld y) :: es), some d, (true, .b b), [], Lc, Lc1, []⟩) (fun hN => ?_) ⟨fun p hp' => hop.need p hp', by simp, hL, by simp⟩ ?_
  · have := CtOk.of_op (r := r) (D := D) (B := B) (o := ⟨some d, .call { callee := .value fo, args := args, argTypes := ats }, ty, pos, aft, none⟩) (es := (true, .yld y) :: es) (E := en E) (out := .b b) ho hN.dst gN
      (fun _ => by have := OpC.yld (r := r) hc (o := ⟨some d, .call { callee := .value fo, args := args, argTypes := ats }, ty, pos, aft, none⟩) rfl rfl; rw [← hes] at this; exact this) (by rw [hl]; exact hop) (.inl rfl)
    rw [hl] at this
    simpa using this
  · have : (Ct.app ⟨needOf (fo :: args.toList) ((true, .yld y) :: es), some d, (true, .b b), [], Lc, Lc1, []⟩ (st E L n)) = st ((d, (true, .b b)) :: E) (Lc1 ++ L) n := by
      simp only [Ct.app, putE_putL, putL]
      congr 1
      · funext k
        simp only [Hp.upd, hp, lookup_append']
        cases hk : Lc1.lookup k with
        | some x => rfl
        | none =>
          simp only []
          cases hk2 : Lc.lookup k with
          | some x =>
            exfalso
            have h1 : k ∈ Lc1.map (·.1) := by rw [hc.1]; exact List.mem_map.2 ⟨_, lookup_mem' hk2, rfl⟩
            obtain ⟨p, hp', rfl⟩ := List.mem_map.1 h1
            have := lookup_of_nodup (l := Lc1) (by rw [hc.1, hc.2.rng]; exact List.nodup_range) (k := p.1) (v := p.2) hp'
            rw [this] at hk; cases hk
          | none => rfl
      · funext k; simp
    rw [this]; exact h

end

end Go.Proofs.YtnamkhifmankmaaDoor

/- A value of a struct type; a slice that is written no more, as it is made; a nil slice within a cell; a place where paths meet; bits of integers. -/
namespace Go.Proofs.YtnamkhifmankmaaDoor

section
variable {P : Program} {r : Option Nat} {N : Nat} {D : List Nat} {B : Base} {Ψ : Exit → Act → World → Prop} {todo : List Item} {S : St}

/-- a place where paths meet: what follows is shown once, for all states that the paths may leave -/
theorem LGo.split {x : Item} {α : Type} (S' : α → St) (J : α → Prop) (hr : ∀ a, J a → LGo P r N D B Ψ todo (S' a)) (h : (∀ a, J a → LGo P r N D B Ψ todo (S' a)) → LGo P r N D B Ψ (x :: todo) S) : LGo P r N D B Ψ (x :: todo) S := h hr
end

/-! ### a slice that is written no more -/

theorem row_frozen {cx : Cx} {pr' : Nat → Nat} {w : World} {v : Value} {T sz : Nat} {xs : List (List LV)} {ys : List (List SV)} {vs : List Value} (hsz : ∀ e ∈ xs, e.length = sz) (hown : w.ownsRow 0 T sz v xs.length vs)
    (hvs : Vs cx w xs.flatten vs) (hones : ∀ u ∈ vs, u.oneCell' = true) (hy : xs = ys.map (List.map LV.sv)) (hext : Ext cx.pr w pr' w) (hpr : ∀ b, some b = bk v → ys.length * sz ≤ pr' b) : VS pr' w (.sl sz ys) v := by
  have hyl : xs.length = ys.length := by rw [hy]; simp
  simp only [VS]
  rcases hown.2 with ⟨e1, e2⟩ | ⟨gb, cap, cur, e1, _, e2, e3, e4, e5, e6⟩
  · left
    refine ⟨.inl e1, ?_⟩
    apply List.eq_nil_of_length_eq_zero; omega
  · right
    have hbk : some gb = bk v := by rw [e1]; rfl
    refine ⟨gb, 0, cap, by rw [e1, hyl], by omega, e4, by have := hpr gb hbk; omega, ?_⟩
    have hvl : vs.length = ys.length * sz := by rw [hown.1, hyl]
    refine VSR.of_list e2 ys vs 0 (fun e he => ?_) hvl (fun j hj => ?_) hones (fun j c v hc hv => ?_)
    · have := hsz (e.map LV.sv) (by rw [hy]; exact List.mem_map.2 ⟨e, he, rfl⟩)
      simpa using this
    · rw [Nat.zero_add, ← e6, List.getElem?_take, if_pos (by rw [hyl, ← hvl]; exact hj)]
      simp
    · have hc' : xs.flatten[j]? = some (.sv c) := by
        rw [hy, ← List.map_flatten, List.getElem?_map, hc]
        rfl
      obtain ⟨v', hv', hV⟩ := hvs.get hc'
      rw [hv] at hv'; cases hv'
      simp only [V] at hV
      exact VS.mono hext c v hV

theorem Tr.frz {cx cx' : Cx} {w w' : World} {o T sz : Nat} {xs : List (List LV)} {ys : List (List SV)} {v : Value} (t : Tr cx w (hp []) cx' w' (hp [(o, .row T sz xs)]) (· ∈ [o])) (hv : V cx' w' (.ref o) v)
    (hy : xs = ys.map (List.map LV.sv)) : ∃ c2, Tr cx w (hp []) c2 w' (hp []) (· ∈ ([] : List Nat)) ∧ V c2 w' (.sv (.sl sz ys)) v := by
  have hb : hp [(o, LO.row T sz xs)] o = some (.row T sz xs) := by simp
  obtain ⟨hAo, hsz, vs, hown, hvs, hones⟩ := t.heap.ok o _ hb
  simp only [V] at hv
  obtain ⟨_, rfl, _⟩ := hv
  let pr' : Nat → Nat := fun b => if some b = bk (cx'.loc o) then ys.length * sz else cx'.pr b
  have hpr0 : ∀ b, some b = bk (cx'.loc o) → cx'.pr b = 0 ∧ b < w'.heap.size ∧ w.heap.size ≤ b := fun b hbb => by
    obtain ⟨h1, h2, h3⟩ := t.heap.own o _ b hb (.inl hbb.symm)
    refine ⟨h1, h2, ?_⟩
    rcases h3 with h3 | ⟨q, x, hq, _⟩
    · exact h3
    · simp at hq
  have hext : Ext cx'.pr w' pr' w' := fun b off hbo => by
    refine ⟨?_, rfl⟩
    show off < (if some b = bk (cx'.loc o) then _ else _)
    split
    · rename_i hh; have := (hpr0 b hh).1; omega
    · exact hbo
  refine ⟨⟨pr', cx.A, cx.loc, cx.inn⟩, ⟨fun q hq => ⟨hq, rfl⟩, fun q => by simp, ⟨t.grow.os, t.grow.tape, t.grow.output, t.grow.size, t.grow.same, fun b hbs hmd => ?_, t.grow.ext.trans hext⟩, ⟨fun q x hx => by simp at hx, fun q x b hx => by simp at hx, fun q q' x x' b _ hx => by simp at hx, fun b hbp => ?_⟩, fun _ _ _ => rfl⟩, ?_⟩
  · show (if some b = bk (cx'.loc o) then _ else cx'.pr b) = _
    split
    · rename_i hh; have := (hpr0 b hh).2.2; omega
    · exact t.grow.prs b hbs hmd
  · change 0 < (if some b = bk (cx'.loc o) then _ else cx'.pr b) at hbp
    split at hbp
    · rename_i hh; exact (hpr0 b hh).2.1
    · exact t.heap.lim b hbp
  · simp only [V]
    exact row_frozen hsz hown hvs hones hy hext (fun b hbb => by show _ ≤ (if some b = bk (cx'.loc o) then _ else _); rw [if_pos hbb]; exact Nat.le_refl _)

theorem OpC.frz {P : Program} {r : Option Nat} {o : Oper} {lvs : List LV} {T sz : Nat} {xs : List (List LV)} {ys : List (List SV)} (h : OpC P r o lvs [] [] (.ref 0) [(0, .row T sz xs)] [0]) (hl : LV.lts 0 lvs = true)
    (hy : xs = ys.map (List.map LV.sv)) : OpC P r o lvs [] [] (.sv (.sl sz ys)) [] [] := by
  refine ⟨by simp, fun md n0 cx H a w K Q hok ham hrd hHi hnew hv hK => ?_⟩
  let c1 : Cx := ⟨cx.pr, fun o => o < 0, cx.loc, cx.inn⟩
  have hva1 : Vs c1 w lvs (o.op.operands.toList.map a.eval) := Vs.unren (cx1 := c1) (cx2 := cx) (σ := id) (m := 0) rfl (fun o ho => absurd ho (Nat.not_lt_zero o)) _ _ hl (by rw [mapIs_of_lt0 _ _ hl]; exact hv)
  have hok1 : HOk (fun _ => True) 0 c1 (hp []) w := ⟨fun o x hx => by simp at hx, fun o x b hx => by simp at hx, fun o o' x x' b _ hx => by simp at hx, hok.lim⟩
  refine h.2 (fun _ => True) 0 c1 (hp []) a w K Q hok1 ham (by simp) (by simp) (fun i _ => Nat.not_lt_zero i) hva1 (fun cx' w' v t hv' => ?_)
  obtain ⟨c2, t2, hv2⟩ := t.frz hv' hy
  refine hK ⟨c2.pr, cx.A, cx.loc, cx.inn⟩ w' v ⟨fun q hq => ⟨hq, rfl⟩, fun q => by simp, t2.grow, ⟨fun q x hx => by simp at hx, fun q x b hx => by simp at hx, fun q q' x x' b _ hx => by simp at hx, t2.heap.lim⟩, fun _ _ _ => rfl⟩ ?_
  simp only [V] at hv2 ⊢
  exact hv2

section
variable {P : Program} {r : Option Nat} {N : Nat} {D : List Nat} {B : Base} {all : Array Oper} {K : List (Nat × Ct) → St → Prop}
variable {i : Nat} {ops : List Oper} {tr : List (Nat × Ct)} {E : List (Nat × Ent)} {L : List (Nat × LO)} {n : Nat} {g : Bool} {gn : List (Nat × Ent)}
variable {d ty : Nat} {pos : String} {aft : Array Edge} {gd : Option (Nat × Bool)}

/-- a slice out of its elements, never written again -/
theorem R.buildSliceF {t e sz : Nat} (hF : AppF P t e sz) {len : Nat} {parts : Array (Nat × Operand)} {xs : List Operand} {es : List Ent} {ls : List LV} {cs : List (List LV)} (ys : List (List SV))
    (ho : all[i]? = some ⟨some d, .buildSlice t len parts, ty, pos, aft, gd⟩ := by rfl) (hg : GuardOk (en E) all gd g gn := by first | exact gN | exact gS rfl rfl) (hp' : parts.toList = xs.zipIdx.map (fun p => (p.2, p.1)) := by rfl)
    (hx : xs.map (lvOf (en E)) = es.map some := by rfl) (hes : g = true → es.map entLV = ls := by first | exact fun _ => rfl | (intro h; simp [entLV, h]; done) | (intro h; simp only [List.map_cons, List.map_nil, entLV_eq h]; first | done | rfl))
    (hcs : CellsOfs ls cs := by repeat (first | exact CellsOfs.nil | refine CellsOfs.cons (CellsOf.one rfl) ?_ | refine CellsOfs.cons (CellsOf.agg rfl) ?_)) (hsz : (cs.all fun c => c.length == sz) = true := by rfl) (hlen : cs.length = len := by rfl)
    (hl : LV.lts 0 ls = true := by rfl) (hy : cs = ys.map (List.map LV.sv) := by rfl)
    (hsm : len * sz ≤ 16777216 := by first | decide | omega) (hlm : len ≤ 16777216 := by first | decide | omega)
    (h : Reg P r N D B all (i + 1) ops ((i, Ct.p gn xs es (some d) (g, .sv (.sl sz ys)) []) :: tr) (st ((d, (g, .sv (.sl sz ys))) :: E) L n) K) :
    Reg P r N D B all i (⟨some d, .buildSlice t len parts, ty, pos, aft, gd⟩ :: ops) tr (st E L n) K := by
  have hop : (Oper.mk (some d) (.buildSlice t len parts) ty pos aft gd).op.operands.toList = xs := by
    show (parts.toList.map (·.2)).toArray.toList = xs
    rw [hp']
    simp only [List.map_map, List.toList_toArray]
    have : ((fun (x : Nat × Operand) => x.2) ∘ fun (p : Operand × Nat) => (p.2, p.1)) = Prod.fst := rfl
    rw [this]; simp
  refine Reg.pure (es := es) (rd := []) (out := .sv (.sl sz ys)) ho hg ?_ (by simp) (fun hgt => ?_) ?_
  · rw [hop]; exact Opnds.of_map hx
  · rw [hes hgt]
    exact OpC.frz (OpC.buildSlice hF (by rfl) (by simp) hp' hcs hsz hlen hsm hlm 0) hl hy
  · rw [hop]; exact h

/-! ### a value of a struct type, out of its fields -/

/-- all fields take one cell each -/
def BuildF (P : Program) (t : Nat) (zs : List Value) : Prop := (∀ w, (zeroValue t).run P w = .ok (.agg zs.toArray) w) ∧ (∀ z ∈ zs, z.oneCell' = true) ∧ ∃ fields, (∀ w, (underlying t).run P w = .ok (.struct fields) w) ∧
  ∀ w, (fields.mapM fun (f : Field) => (do pure (f.offset, ← sizeOf f.type) : Sem (Nat × Nat))).run P w = .ok ((List.range zs.length).map fun k => (k, 1)).toArray w

theorem fill_ones {m : Nat} : ∀ (ps : List (Nat × Value)) (C : Array Value), C.size = m → (∀ p ∈ ps, p.1 < m ∧ p.2.oneCell' = true) →
    Instr.fill (((List.range m).map fun k => (k, 1)).toArray[·]?) C ps = some (ps.foldl (fun (C : List Value) p => C.set p.1 p.2) C.toList).toArray
  | [], C, _, _ => by simp [Instr.fill]
  | (j, v) :: ps, C, hC, h => by
    obtain ⟨h1, h2⟩ := h (j, v) (by simp)
    have hc := cells_one h2
    have hj : j < m := h1
    have := fill_ones ps (C.setIfInBounds j v) (by simpa using hC) (fun p hp' => h p (List.mem_cons_of_mem _ hp'))
    simp only [Instr.fill]
    have e1 : ((List.range m).map fun k => (k, 1)).toArray[j]? = some (j, 1) := by simp [hj]
    rw [e1]
    simp only [hc]
    have e2 : ¬ (j + 1 > C.size) := by omega
    rw [if_neg (by simpa using e2)]
    have e3 : Array.foldl (fun (cs : Array Value) (x : Value × Nat) => cs.setIfInBounds (j + x.2) x.1) C (#[v].zipIdx) = C.setIfInBounds j v := by
      rw [← Array.foldl_toList, Array.toList_zipIdx]; rfl
    have := this.trans (show _ = some (List.foldl (fun (C : List Value) p => C.set p.1 p.2) C.toList ((j, v) :: ps)).toArray by simp)
    rw [← this, ← e3]

/-- the cells of a struct out of some of its fields -/
def bcells (zs : List Value) (is : List Nat) (lvs : List LV) : List LV := (is.zip lvs).foldl (fun (C : List LV) p => C.set p.1 p.2) (zs.map fun z => .v z)

theorem Vs.set' {cx : Cx} {w : World} : ∀ {cs : List LV} {vs : List Value} (k : Nat) {c : LV} {v : Value}, Vs cx w cs vs → V cx w c v → Vs cx w (cs.set k c) (vs.set k v)
  | [], vs, k, c, v, h, hv => by simp only [Vs] at h; subst h; simp [Vs]
  | c0 :: cs, vs, k, c, v, h, hv => by
    simp only [Vs] at h
    obtain ⟨y, rs, rfl, h1, h2⟩ := h
    cases k with
    | zero => simp only [List.set_cons_zero, Vs]; exact ⟨_, _, rfl, hv, h2⟩
    | succ k => simp only [List.set_cons_succ, Vs]; exact ⟨_, _, rfl, h1, Vs.set' k h2 hv⟩

theorem bcells_ok {cx : Cx} {w : World} : ∀ (is : List Nat) (lvs : List LV) (vs : List Value) (C : List LV) (D : List Value), Vs cx w C D → Vs cx w lvs vs →
    Vs cx w ((is.zip lvs).foldl (fun (C : List LV) p => C.set p.1 p.2) C) ((is.zip vs).foldl (fun (C : List Value) p => C.set p.1 p.2) D)
  | [], lvs, vs, C, D, hC, _ => by simpa using hC
  | k :: is, [], vs, C, D, hC, hv => by simp only [Vs] at hv; subst hv; simpa using hC
  | k :: is, l :: lvs, vs, C, D, hC, hv => by
    simp only [Vs] at hv
    obtain ⟨v, vs', rfl, h1, h2⟩ := hv
    simp only [List.zip_cons_cons, List.foldl_cons]
    exact bcells_ok is lvs vs' _ _ (Vs.set' k hC h1) h2

theorem R.build {t : Nat} {zs : List Value} (hF : BuildF P t zs) {parts : Array (Nat × Operand)} {is : List Nat} {xs : List Operand} {es : List Ent} {ls cs : List LV}
    (ho : all[i]? = some ⟨some d, .build t parts, ty, pos, aft, gd⟩ := by rfl) (hg : GuardOk (en E) all gd g gn := by first | exact gN | exact gS rfl rfl) (hp' : parts.toList = is.zip xs := by rfl) (hil : is.length = xs.length := by rfl) (hlt : (is.all fun k => decide (k < zs.length)) = true := by rfl)
    (hx : xs.map (lvOf (en E)) = es.map some := by rfl) (hes : g = true → es.map entLV = ls := by first | exact fun _ => rfl | (intro h; simp [entLV, h]; done) | (intro h; simp only [List.map_cons, List.map_nil, entLV_eq h]; first | done | rfl)) (h1 : ls.all LV.one = true := by rfl) (hcs : bcells zs is ls = cs := by rfl)
    (h : Reg P r N D B all (i + 1) ops ((i, Ct.p gn xs es (some d) (g, .agg cs) []) :: tr) (st ((d, (g, .agg cs)) :: E) L n) K) :
    Reg P r N D B all i (⟨some d, .build t parts, ty, pos, aft, gd⟩ :: ops) tr (st E L n) K := by
  have hop : (Oper.mk (some d) (.build t parts) ty pos aft gd).op.operands.toList = xs := by
    show (parts.toList.map (·.2)).toArray.toList = xs
    rw [hp']
    simp only [List.toList_toArray]
    exact List.map_snd_zip (by omega)
  refine Reg.pure (es := es) (rd := []) (out := .agg cs) ho hg ?_ (by simp) (fun hgt => ?_) ?_
  · rw [hop]; exact Opnds.of_map hx
  · rw [hes hgt]
    refine OpC.of_pure (by simp) fun md n0 cx H ρ w _ _ hv => ?_
    rw [hop] at hv
    obtain ⟨hz, hz1, fields, hu, hm⟩ := hF
    have hones := Vs.ones h1 hv
    have hpl : (parts.map fun (x : Nat × Operand) => (x.1, ρ x.2)).toList = is.zip (xs.map ρ) := by
      rw [Array.toList_map, hp', List.zip_map_right]
      rfl
    have hfill := fill_ones (m := zs.length) (is.zip (xs.map ρ)) zs.toArray (by simp) (fun p hpm => by
      obtain ⟨hp1, hp2⟩ := List.of_mem_zip hpm
      exact ⟨by simpa using List.all_eq_true.1 hlt _ hp1, hones _ hp2⟩)
    refine ⟨.agg ((is.zip (xs.map ρ)).foldl (fun (C : List Value) p => C.set p.1 p.2) zs).toArray, ?_, ?_⟩
    · simp only [execOp, Instr.build, Sem.run_bind, hz w, hu w, Result.andThen_ok, hm w, Value.cells]
      have : (parts.map fun (i, x) => (i, ρ x)).toList = is.zip (xs.map ρ) := hpl
      rw [this]
      simp only [List.toList_toArray] at hfill
      rw [hfill]
      simp
    · rw [← hcs]
      simp only [V]
      refine ⟨_, rfl, bcells_ok is ls _ _ _ ?_ hv⟩
      exact vs_map_val cx w zs
  · rw [hop]; exact h

/-! ### bits -/

theorem run_or (t : Nat) (x y : Operand) (k : IntKind) (a b : Int) : ∀ w, (do eqGuard .or t x y (.int k a) (.int k b); binOp .or t (.int k a) (.int k b) : Sem Value).run P w = .ok (.int k (k.wrap ((BitVec.ofInt k.bits a ||| BitVec.ofInt k.bits b).toNat))) w :=
  binI .or rfl t x y k a b fun w => by simp [binOp, Op.intBits]
theorem run_and (t : Nat) (x y : Operand) (k : IntKind) (a b : Int) : ∀ w, (do eqGuard .and t x y (.int k a) (.int k b); binOp .and t (.int k a) (.int k b) : Sem Value).run P w = .ok (.int k (k.wrap ((BitVec.ofInt k.bits a &&& BitVec.ofInt k.bits b).toNat))) w :=
  binI .and rfl t x y k a b fun w => by simp [binOp, Op.intBits]

end

section
variable {P : Program} {N : Nat} {B : Base} {E : List (Nat × Ent)} {L : List (Nat × LO)} {n : Nat}

theorem res0 {fn : Func} (h : fn.results = #[]) {m k : Nat} {Hi Ho : List (Nat × LO)} (hA : ∀ o, B.cx.A o ↔ o < m) (hmd : B.md = blks B.cx (hp Hi)) (hn : n = m + k)
    (hHo : ∀ o x, hp Ho o = some x → hp L o = some x) {e : Exit} (he : e = .normal ∨ e = .ret) :
    ∀ cx a w, Rel B N [] (st E L n) cx a w → FnPost P fn B m (.tup []) Hi Ho k e a w := by
  intro cx a w hr
  subst hn
  refine FnPost.of hA hmd hHo he hr (v := .tuple #[]) ?_ ?_
  · simp [results, h]
  · simp only [V, Vs]; exact ⟨[], rfl, rfl⟩

theorem KeepL.of {H : Hp} : ∀ {l : List (Nat × LO)}, (∀ p ∈ l, H p.1 = some p.2) → KeepL H l
  | [], _ => trivial
  | p :: l, h => ⟨h p (by simp), KeepL.of fun q hq => h q (List.mem_cons_of_mem _ hq)⟩

theorem KeepL.app {l l' : List (Nat × LO)} (hn : (l.map (·.1)).Nodup) : KeepL (hp (l ++ l')) l := KeepL.of fun p hp' => by
  simp only [hp, lookup_append', lookup_of_nodup hn hp']

end

section
variable {P : Program} {N : Nat} {B : Base} {E : List (Nat × Ent)} {L : List (Nat × LO)} {n : Nat}

/-- the end of a function; names that the caller does not get are let go -/
theorem FnPost.of2 {fn : Func} {m k : Nat} {out : LV} {Hi Ho : List (Nat × LO)}
    (hA : ∀ o, B.cx.A o ↔ o < m) (hmd : B.md = blks B.cx (hp Hi)) (hn : m + k ≤ n) (hHo : ∀ o x, hp Ho o = some x → hp L o = some x) (hol : (Ho.all fun p => decide (p.1 < m + k) && p.2.lt (m + k)) = true) (hout : out.lt (m + k) = true)
    {e : Exit} (he : e = .normal ∨ e = .ret) {cx : Cx} {a : Act} {w : World} (hr : Rel B N [] (st E L n) cx a w) {v : Value} (hv : (results fn a.tmps).run P w = .ok v w) (hvo : V cx w out v) :
    FnPost P fn B m out Hi Ho k e a w := by
  refine ⟨he, ?_⟩
  rw [show a.defers = [] from hr.df]
  let c1 : Cx := ⟨cx.pr, fun o => o < m + k, cx.loc, cx.inn⟩
  have h1 : ∀ o, o < m + k → c1.A o ∧ c1.loc o = cx.loc (id o) := fun o ho => ⟨ho, rfl⟩
  have hlt : ∀ o x, hp Ho o = some x → o < m + k ∧ x.lt (m + k) = true := fun o x hx => by
    have := List.all_eq_true.1 hol _ (lookup_mem' hx)
    simpa using this
  refine ⟨v, hv, v, c1, rfl, fun hne => ⟨fun o ho => ⟨?_, (hr.le o ho).2⟩, fun o => ?_, by rw [← hmd]; exact hr.grow, ⟨fun o x hx => ⟨(hlt o x hx).1, ?_⟩, fun o x b hx hb => by rw [← hmd]; exact hr.heap.own o x b (hHo o x hx) hb, fun o o' x x' b hne hx hx' hb => hr.heap.inj o o' x x' b hne (hHo o x hx) (hHo o' x' hx') hb, hr.heap.lim⟩, fun o ho hn => absurd hn (hne o ho)⟩, ?_⟩
  · have := (hA o).1 ho
    show o < m + k
    omega
  · rw [hA]
    show o < m + k ↔ _
    omega
  · have := (hr.heap.ok o x (hHo o x hx)).2
    exact ObjOk.unren (cx1 := c1) (cx2 := cx) (σ := id) rfl h1 (hlt o x hx).1 (hlt o x hx).2 rfl (by rw [LO.mapI_id]; exact this)
  · exact V.unren (cx1 := c1) (cx2 := cx) (σ := id) rfl h1 out v hout (by rw [mapI_id]; exact hvo)

theorem resD {fn : Func} {t T TB sz o : Nat} {cs : List LV} (h : fn.results = #[.cell t T]) (hF : AggF P T sz) {m k : Nat} {Hi Ho : List (Nat × LO)} (hA : ∀ o, B.cx.A o ↔ o < m) (hmd : B.md = blks B.cx (hp Hi)) (hn : m + k ≤ n)
    (hHo : ∀ o x, hp Ho o = some x → hp L o = some x) (ht : en E t = some (true, .ptr o 0)) (hb : hp L o = some (.box TB cs)) (hc : cs.length = sz) {e : Exit} (he : e = .normal ∨ e = .ret)
    (hol : (Ho.all fun p => decide (p.1 < m + k) && p.2.lt (m + k)) = true := by rfl) (hout : (LV.agg cs).lt (m + k) = true := by rfl) :
    ∀ cx a w, Rel B N [] (st E L n) cx a w → FnPost P fn B m (.agg cs) Hi Ho k e a w := by
  intro cx a w hr
  obtain ⟨v, ad, h1, h2, h3⟩ := boxLoadA hF hr ht hb hc
  refine FnPost.of2 hA hmd hn hHo hol hout he hr (v := v) ?_ h3
  simp only [Array.getD_eq_getD_getElem?] at h1
  simp [results, h, h1, asAddr, h2]
theorem resD1 {fn : Func} {t T TB sz o u : Nat} {cs : List LV} {l : LV} (h : fn.results = #[.cell t T, .tmp u]) (hF : AggF P T sz) {m k : Nat} {Hi Ho : List (Nat × LO)} (hA : ∀ o, B.cx.A o ↔ o < m) (hmd : B.md = blks B.cx (hp Hi)) (hn : m + k ≤ n)
    (hHo : ∀ o x, hp Ho o = some x → hp L o = some x) (ht : en E t = some (true, .ptr o 0)) (hb : hp L o = some (.box TB cs)) (hc : cs.length = sz) (hu : en E u = some (true, l)) {e : Exit} (he : e = .normal ∨ e = .ret)
    (hol : (Ho.all fun p => decide (p.1 < m + k) && p.2.lt (m + k)) = true := by rfl) (hout : (LV.tup [.agg cs, l]).lt (m + k) = true := by rfl) :
    ∀ cx a w, Rel B N [] (st E L n) cx a w → FnPost P fn B m (.tup [.agg cs, l]) Hi Ho k e a w := by
  intro cx a w hr
  obtain ⟨v, ad, h1, h2, h3⟩ := boxLoadA hF hr ht hb hc
  refine FnPost.of2 hA hmd hn hHo hol hout he hr (v := .tuple #[v, a.tmps.getD u undef]) ?_ ?_
  · simp only [Array.getD_eq_getD_getElem?] at h1
    simp [results, h, h1, asAddr, h2]
  · simp only [V] at h3 ⊢
    exact ⟨[_, _], rfl, by simp only [Vs]; exact ⟨_, _, rfl, by simp only [V]; exact h3, _, _, rfl, (hr.env u _ hu).1 rfl, rfl⟩⟩
theorem resD2 {fn : Func} {t T TB sz o u u' : Nat} {cs : List LV} {l l' : LV} (h : fn.results = #[.cell t T, .tmp u, .tmp u']) (hF : AggF P T sz) {m k : Nat} {Hi Ho : List (Nat × LO)} (hA : ∀ o, B.cx.A o ↔ o < m) (hmd : B.md = blks B.cx (hp Hi)) (hn : m + k ≤ n)
    (hHo : ∀ o x, hp Ho o = some x → hp L o = some x) (ht : en E t = some (true, .ptr o 0)) (hb : hp L o = some (.box TB cs)) (hc : cs.length = sz) (hu : en E u = some (true, l)) (hu' : en E u' = some (true, l')) {e : Exit} (he : e = .normal ∨ e = .ret)
    (hol : (Ho.all fun p => decide (p.1 < m + k) && p.2.lt (m + k)) = true := by rfl) (hout : (LV.tup [.agg cs, l, l']).lt (m + k) = true := by rfl) :
    ∀ cx a w, Rel B N [] (st E L n) cx a w → FnPost P fn B m (.tup [.agg cs, l, l']) Hi Ho k e a w := by
  intro cx a w hr
  obtain ⟨v, ad, h1, h2, h3⟩ := boxLoadA hF hr ht hb hc
  refine FnPost.of2 hA hmd hn hHo hol hout he hr (v := .tuple #[v, a.tmps.getD u undef, a.tmps.getD u' undef]) ?_ ?_
  · simp only [Array.getD_eq_getD_getElem?] at h1
    simp [results, h, h1, asAddr, h2]
  · simp only [V] at h3 ⊢
    exact ⟨[_, _, _], rfl, by simp only [Vs]; exact ⟨_, _, rfl, by simp only [V]; exact h3, _, _, rfl, (hr.env u _ hu).1 rfl, _, _, rfl, (hr.env u' _ hu').1 rfl, rfl⟩⟩

end

end Go.Proofs.YtnamkhifmankmaaDoor

/- Names told anew; a nil slice within a cell of one's own. -/
namespace Go.Proofs.YtnamkhifmankmaaDoor

section
variable {P : Program} {r : Option Nat} {N : Nat} {D : List Nat} {B : Base} {Ψ : Exit → Act → World → Prop} {todo : List Item} {E : List (Nat × Ent)} {L : List (Nat × LO)} {n : Nat}

/-- the slots, told by new names: the new name j stands for the old one s j -/
def renE (s : Nat → Nat) (E : List (Nat × Ent)) : List (Nat × Ent) := E.map fun p => (p.1, p.2.1, p.2.2.mapI s)
def renL (s : Nat → Nat) (L : List (Nat × LO)) : List (Nat × LO) := L.map fun p => (s p.1, p.2.mapI s)

theorem LGo.ren (s : Nat → Nat) (m : Nat) (hB : ∀ o, B.cx.A o → o < m ∧ s o = o) (hs : ∀ j, j < m → s j < n) (hinj : ∀ i j, i < m → j < m → s i = s j → i = j) (E' : List (Nat × Ent)) (L' : List (Nat × LO))
    (hE : KeepE (en E) (renE s E')) (hL : KeepL (hp L) (renL s L')) (hEl : ∀ p ∈ E', p.2.2.lt m = true) (hLl : ∀ p ∈ L', p.1 < m ∧ p.2.lt m = true)
    (hD : ∀ o ∈ D, o < m ∧ s o = o) (h : LGo P r N D B Ψ todo (st E' L' m)) : LGo P r N D B Ψ todo (st E L n) := by
  refine LGo.conv (fun cx a w hr => ?_) h
  let c2 : Cx := ⟨cx.pr, fun o => o < m, fun o => cx.loc (s o), fun o => cx.inn (s o)⟩
  have h1 : ∀ o, o < m → c2.A o ∧ c2.loc o = cx.loc (s o) := fun o ho => ⟨ho, rfl⟩
  have getE : ∀ {l : List (Nat × Ent)} {t : Nat} {e : Ent}, en l t = some e → KeepE (en E) (renE s l) → (t, e) ∈ l ∧ en E t = some (e.1, e.2.mapI s) := by
    intro l
    induction l with
    | nil => intro t e h; simp at h
    | cons p l ih =>
      obtain ⟨pk, pv⟩ := p
      intro t e ht hk
      simp only [renE, List.map_cons, KeepE] at hk
      simp only [en, List.lookup_cons] at ht
      split at ht
      · rename_i hh; simp at hh; cases ht; subst hh; exact ⟨by simp, hk.1⟩
      · obtain ⟨k1, k2⟩ := ih ht hk.2; exact ⟨List.mem_cons_of_mem _ k1, k2⟩
  have getL : ∀ {l : List (Nat × LO)} {t : Nat} {e : LO}, hp l t = some e → KeepL (hp L) (renL s l) → (t, e) ∈ l ∧ hp L (s t) = some (e.mapI s) := by
    intro l
    induction l with
    | nil => intro t e h; simp at h
    | cons p l ih =>
      obtain ⟨pk, pv⟩ := p
      intro t e ht hk
      simp only [renL, List.map_cons, KeepL] at hk
      simp only [hp, List.lookup_cons] at ht
      split at ht
      · rename_i hh; simp at hh; cases ht; subst hh; exact ⟨by simp, hk.1⟩
      · obtain ⟨k1, k2⟩ := ih ht hk.2; exact ⟨List.mem_cons_of_mem _ k1, k2⟩
  refine ⟨c2, ⟨hr.grow, fun o ho => ⟨(hB o ho).1, ?_⟩, rfl, ⟨fun o x hx => ?_, fun o x b hx hb => ?_, fun o o' x x' b hne hx hx' hb => ?_, hr.heap.lim⟩, hr.size, fun t e he => ?_, ?_, fun o ho => (hD o ho).1⟩⟩
  · show cx.loc (s o) = _
    rw [(hB o ho).2]; exact (hr.le o ho).2
  · obtain ⟨k1, k2⟩ := getL hx hL
    obtain ⟨k3, k4⟩ := hLl _ k1
    exact ⟨k3, ObjOk.unren (cx1 := c2) (cx2 := cx) (σ := s) rfl h1 k3 k4 rfl (hr.heap.ok _ _ k2).2⟩
  · obtain ⟨k1, k2⟩ := getL hx hL
    exact hr.heap.own _ _ b k2 (has_map rfl rfl hb)
  · obtain ⟨k1, k2⟩ := getL hx hL
    obtain ⟨k1', k2'⟩ := getL hx' hL
    exact hr.heap.inj _ _ _ _ b (fun e => hne (hinj _ _ (hLl _ k1).1 (hLl _ k1').1 e)) k2 k2' (has_map rfl rfl hb) ∘ (has_map rfl rfl)
  · obtain ⟨k1, k2⟩ := getE he hE
    have := hr.env t _ k2
    exact ⟨fun hg => V.unren (cx1 := c2) (cx2 := cx) (σ := s) rfl h1 _ _ (hEl _ k1) (this.1 hg), this.2⟩
  · rw [hr.df]
    refine List.map_congr_left (fun o ho => ?_)
    simp only [mkd]
    show _ = Deferred.mk (.collected ((bk (cx.loc (s o))).getD 0)) #[]
    rw [(hD o ho).2]

/-- names told anew, in a walk: ids j is the old name of j -/
theorem LGo.turn (ids : List Nat) {b : Nat} (hB : ∀ o, B.cx.A o → o < b) {E' : List (Nat × Ent)} {L' : List (Nat × LO)} (h : LGo P r N D B Ψ todo (st E' L' ids.length))
    (hE : KeepE (en E) (renE (fun j => ids.getD j 0) E')) (hL : KeepL (hp L) (renL (fun j => ids.getD j 0) L'))
    (hb : ids.take b = List.range b := by rfl) (hlt : (ids.all fun i => decide (i < n)) = true := by rfl) (hnd : ids.Nodup := by decide)
    (hEl : (E'.all fun p => p.2.2.lt ids.length) = true := by rfl) (hLl : (L'.all fun p => decide (p.1 < ids.length) && p.2.lt ids.length) = true := by rfl) (hD : ∀ o ∈ D, o < b := by simp) : LGo P r N D B Ψ todo (st E L n) := by
  have hbl : ∀ o, o < b → o < ids.length ∧ ids.getD o 0 = o := by
    intro o ho
    have hl : (ids.take b).length = b := by rw [hb]; simp
    rw [List.length_take] at hl
    have h1 : o < ids.length := by omega
    refine ⟨h1, ?_⟩
    have h2 : (ids.take b)[o]? = some o := by rw [hb]; simp [ho]
    rw [List.getElem?_take, if_pos ho] at h2
    simp [List.getD_eq_getElem?_getD, h2]
  refine LGo.ren (fun j => ids.getD j 0) ids.length (fun o ho => hbl o (hB o ho)) (fun j hj => ?_) (fun i j hi hj he => ?_) E' L' hE hL (fun p hp' => List.all_eq_true.1 hEl p hp') (fun p hp' => by have := List.all_eq_true.1 hLl p hp'; simpa using this) (fun o ho => hbl o (hD o ho)) h
  · simp only [List.getD_eq_getElem?_getD, List.getElem?_eq_getElem hj, Option.getD_some]
    simpa using List.all_eq_true.1 hlt _ (List.getElem_mem hj)
  · simp only [List.getD_eq_getElem?_getD, List.getElem?_eq_getElem hi, List.getElem?_eq_getElem hj, Option.getD_some] at he
    rcases Nat.lt_trichotomy i j with hlt' | heq | hlt'
    · exact absurd he (List.pairwise_iff_getElem.1 hnd i j hi hj hlt')
    · exact heq
    · exact absurd he.symm (List.pairwise_iff_getElem.1 hnd j i hj hi hlt')

end

theorem oneL {o : Nat} {x : LO} {L : List (Nat × LO)} (h : hp L o = some x) : ∀ (q : Nat) (y : LO), hp [(o, x)] q = some y → hp L q = some y := by
  intro q y hy
  simp only [hp, List.lookup_cons, List.lookup_nil] at hy
  cases ho : (q == o) with
  | true => rw [ho] at hy; cases hy; have : q = o := by simpa using ho
            subst this; exact h
  | false => rw [ho] at hy; cases hy

section
variable {P : Program} {r : Option Nat} {N : Nat} {D : List Nat} {B : Base} {all : Array Oper} {K : List (Nat × Ct) → St → Prop}
variable {i : Nat} {ops : List Oper} {tr : List (Nat × Ct)} {E : List (Nat × Ent)} {L : List (Nat × LO)} {n : Nat}
variable {d ty : Nat} {pos : String} {aft : Array Edge}

/-- a call of a function that takes no object and leaves new ones -/
theorem R.callN {f k : Nat} {args : Array Operand} {ats : Array TypeId} {es : List Ent} {lvs : List LV} {out out' : LV} {Ho Ho' : List (Nat × LO)} (hc : LC P f 0 lvs [] out Ho k)
    (ho : all[i]? = some ⟨some d, .call { callee := .value (.func f), args := args, argTypes := ats }, ty, pos, aft, none⟩ := by rfl)
    (hx : args.toList.map (lvOf (en E)) = es.map some := by rfl) (hes : es.map entLV = lvs := by rfl) (hout : out.mapI (sg [] n) = out' := by rfl) (hHo : (Ho.map fun p => (sg [] n p.1, p.2.mapI (sg [] n))) = Ho' := by rfl)
    (h : Reg P r N D B all (i + 1) ops ((i, ⟨needOf (.func f :: args.toList) ((true, .fn (.func f) [] []) :: es), some d, (true, out'), [], [], Ho', List.range' n k⟩) :: tr) (st ((d, (true, out')) :: E) (Ho' ++ L) (n + k)) K) :
    Reg P r N D B all i (⟨some d, .call { callee := .value (.func f), args := args, argTypes := ats }, ty, pos, aft, none⟩ :: ops) tr (st E L n) K := by
  have hl : (Oper.mk (some d) (.call { callee := .value (.func f), args := args, argTypes := ats }) ty pos aft none).op.operands.toList = .func f :: args.toList := by simp [Op.operands, Go.Call.operands]
  have h0 : LV.lts 0 lvs = true := hc.args
  have h2 := OpC.call (r := r) (n := n) (ids := []) (k := k) (Ho := Ho) hc List.nodup_nil (o := ⟨some d, .call { callee := .value (.func f), args := args, argTypes := ats }, ty, pos, aft, none⟩) rfl rfl (first := []) (cap := []) (avs := lvs)
    (by rw [mapIs_of_lt0 _ _ h0]; simp)
  rw [hout, hHo] at h2
  refine Reg.gen (m := k) (es := (true, .fn (.func f) [] []) :: es) (rd := []) (Hi := []) (Ho := Ho') (out := out') ho gN (by rw [hl]; exact ⟨_, _, rfl, rfl, Opnds.of_map hx⟩) (by simp) (by simp) (by rw [← hes] at h2; exact h2) ?_
  have e : updL L [] Ho' = Ho' ++ L := by simp [updL]
  rw [e]
  rw [hl]
  exact h

end

section
variable {P : Program} {r : Option Nat} {N : Nat} {D : List Nat} {B : Base} {all : Array Oper} {K : List (Nat × Ct) → St → Prop}
variable {i : Nat} {ops : List Oper} {tr : List (Nat × Ct)} {E : List (Nat × Ent)} {L : List (Nat × LO)} {n : Nat} {g : Bool} {gn : List (Nat × Ent)}
variable {d ty : Nat} {pos : String} {aft : Array Edge} {gd : Option (Nat × Bool)}

/-- the length of a slice of one's own -/
theorem R.lenRow {T : Nat} (hF : SliceT P T) {x : Operand} {gx : Bool} {o e sz : Nat} {xs : List (List LV)}
    (ho : all[i]? = some ⟨some d, .call { callee := .builtin .len, args := #[x], argTypes := #[T] }, ty, pos, aft, gd⟩ := by rfl) (hg : GuardOk (en E) all gd g gn := by first | exact gN | exact gS rfl rfl)
    (hx : lvOf (en E) x = some (gx, .ref o) := by rfl) (hgx : g = true → gx = true := by first | exact fun _ => rfl | exact id) (hb : hp L o = some (.row e sz xs) := by rfl)
    (h : Reg P r N D B all (i + 1) ops ((i, Ct.p gn [x] [(gx, .ref o)] (some d) (g, .i xs.length) [(o, .row e sz xs)]) :: tr) (st ((d, (g, .i xs.length)) :: E) L n) K) :
    Reg P r N D B all i (⟨some d, .call { callee := .builtin .len, args := #[x], argTypes := #[T] }, ty, pos, aft, gd⟩ :: ops) tr (st E L n) K :=
  Reg.one rfl (fun h => by
    rw [entLV_true h hgx]
    refine OpC.of_pure1 (x := x) rfl (by simp) fun md n0 cx H ρ w hok hrd hvv => ?_
    have hv := hvv
    obtain ⟨el, hT⟩ := hF
    simp only [V] at hv
    obtain ⟨_, hv1, _⟩ := hv
    obtain ⟨_, _, vs, hown, _⟩ := hok.ok o _ (hrd o (.row e sz xs) (by simp))
    refine ⟨.int .i64 xs.length, ?_, V.mkval⟩
    rcases hown.2 with ⟨e1, e2⟩ | ⟨gb, cap, cur, e1, _⟩
    · rw [e1] at hv1
      simp [execOp, resolve, invoke, builtin, Builtin.len_, hv1, hT w, goInt, e2]
    · rw [e1] at hv1
      simp [execOp, resolve, invoke, builtin, Builtin.len_, hv1, hT w, goInt]) ho hg hx (oneL hb) h

end

end Go.Proofs.YtnamkhifmankmaaDoor
