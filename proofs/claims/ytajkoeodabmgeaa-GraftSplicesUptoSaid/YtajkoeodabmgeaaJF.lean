import Derived.Test.YtajkoeodabmgeaaJF1
import Derived.Test.YtajkoeodabmgeaaJF2
import Derived.Test.YtajkoeodabmgeaaJF3
namespace Go.Proofs.Ytajkoeodabmgeaa
/-- What is left of a row's closed facts, the three great ones left out. -/
def restFacts (P : Program) (f : FuncId) (fn : Func) (s : ChangeSpec) (c : OpenClaim) : Bool :=
  c.wf (OpenSpec.ofChange s) && laidOutB P && mapsRowed P &&
  fn.params.all (P.readableRec ·) && namedTie P c.named s.vars &&
  (c.stops == []) && (P.stops == []) && (c.knobs == []) && (P.stopKnobs == []) &&
  (c.inPlace == P.inPlace f) && (c.unfollowed == P.unfollowed f) && (c.recurses == P.recurses f) && (c.named == P.varsNamed f) &&
  (c.maps == (fn.params.toList ++ s.plain.varTypes P).any (P.mapsRec ·)) && (c.ifaces == (fn.params.toList ++ s.plain.varTypes P).any (P.ifacesRec ·)) && (c.mapsOut == P.mapsAmong fn.resultTypes.toList) &&
  (c.loops == (fn.params.toList ++ s.plain.varTypes P).any (P.loopsFrom ·)) && (c.wideKeys == (fn.params.toList ++ s.plain.varTypes P ++ fn.resultTypes.toList).any (P.wideKeysFrom ·)) &&
  s.vars.all (P.varReadable ·) && fn.resultTypes.all (fun t => P.readableRec t && decide (t < P.types.size)) && (c.ifacesOut == fn.resultTypes.toList.any (P.ifacesRec ·)) && (c.loopsOut == fn.resultTypes.toList.any (P.loopsFrom ·)) && (c.plainKeys == P.plainKeys) && c.shortTexts.isNone && P.stopsHeard && (c.kinds == (if c.domain.isEmpty then [] else fn.params.toList.map fun t => match P.underlying t with | some (.int k) => some k | _ => none)) && (c.pinned == c.pinnedBy) &&
  (c.veiled == (fn.params.toList ++ s.plain.varTypes P ++ fn.resultTypes.toList).any (P.veiledRec ·)) && c.veiledFits P fn.params.toList (fn.params.toList ++ s.plain.varTypes P ++ fn.resultTypes.toList)
theorem joined_split (P : Program) (f : FuncId) (fn : Func) (s : ChangeSpec) (c : OpenClaim) (e1 : P.mayEnter = true) (e2 : (c.lifted == P.liftsFinal) = true) (e3 : (P.make == some c.make) = true) (r : restFacts P f fn s c = true) : joinedFacts P f fn s c = true := by
  unfold restFacts at r
  unfold joinedFacts
  rw [e1, e2, e3]
  simp only [Bool.and_eq_true] at r ⊢
  obtain ⟨⟨⟨⟨a, k⟩, p⟩, v⟩, x⟩ := r
  exact ⟨⟨⟨⟨⟨⟨⟨a, trivial⟩, trivial⟩, trivial⟩, k⟩, p⟩, v⟩, x⟩
theorem joined_of {f : FuncId} {fn : Func} {s : ChangeSpec} {c : OpenClaim} (h2 : c.lifted = Rows.graftMergesUptoRow.lifted) (h3 : c.make = Rows.graftMergesUptoRow.make) (r : restFacts Try.prog f fn s c = true) : joinedFacts Try.prog f fn s c = true :=
  joined_split _ f fn s c jf_may (h2 ▸ jf_lift) (h3 ▸ jf_make) r
end Go.Proofs.Ytajkoeodabmgeaa
