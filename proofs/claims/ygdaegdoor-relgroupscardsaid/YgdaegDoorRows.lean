/-
  NARROWER THAN 'FOR EVERY INPUT', by the rows' own cells (each row's printed sentence says how): RelDrops: laid · RelFilters: laid · RelUpdates: laid · RelSorts: laid · RelUndoes: laid · RelGroups: laid · ParseBack: laid · ParseLoose: laid · ParseTotal: laid · ParseTable: laid · ParseCodes: laid.
  DERIVED. THE GIVEN ROWS OF THIS SEAT. 11 by the template 'for every input the law returns true; each argument reads behind the call as it read before'; 0 by the template 'total and deterministic' (their statements: YgdaegDoorTotals.lean).
  GIVEN WITH THE SEED: the statements are not yours to turn. If you find one false, say at which input.
  Laid BY PROGRAM, IN A SANDBOX (cutbox-rows.mjs): the forced cells as the released guide's own fill.sh prints them over the translation 944f93a665c9e09d… (all of the seat's roots in one cut). By AI agents, Wed Nov 11 2026. No macro, syntax, notation, axiom, sorry.
-/
import Derived.Test.YgdaegDoorChecked
import GoSem.Claim
import GoSem.ClaimJoined
import GoSem.ClaimMapViews
import Derived.JoinedTies
import Derived.KernelRfl
namespace Go.Proofs.YgdaegDoor
/- THE CELL 'sum', in the pinned program and in every row, IS THE sha256 OF THE DUMP (.gsa) THAT YgdaegDoorProg.lean LOADS. Nothing in Lean hashes anything: it is a label: what it is worth is what the hold of that sum in a sandbox is worth. -/
noncomputable def Yaed.pinned : Pinned := { name := "ygdaegdoor", sum := "944f93a665c9e09dbcc428d1fdd824d8d150b4a4f9bcbc8b4bbb9db0656f1cb6", checked := Yaed.checked }
namespace Rows
def none {H : Type} : Left H := { results := [], args := [] }

/- WHAT THE LISTED PACKAGE-LEVEL VARIABLES READ AS WHEN THE CALL BEGINS. Each datum BY PROGRAM (the guide's laid-datum.mjs) off the statement by which the dump's own 'gosem.cut.vars' lays the variable. In a bare row this is a premise. The card (YgdaegDoorCards.lean) ties it to the program's text. -/
def laid_sqlmini_law_theRel {H : Type} : DataW H := .iface "func table" (.agg [.iface "func" (.lit (.string [40, 42, 115, 113, 108, 109, 105, 110, 105, 47, 114, 101, 108, 46, 68, 66, 41, 46, 69, 120, 101, 99])), .iface "func" (.lit (.string [115, 113, 108, 109, 105, 110, 105, 47, 114, 101, 108, 46, 69, 118, 97, 108]))])
def laid_sqlmini_law_theSQL {H : Type} : DataW H := .iface "func table" (.agg [.iface "func" (.lit (.string [115, 113, 108, 109, 105, 110, 105, 47, 115, 113, 108, 46, 80, 97, 114, 115, 101])), .iface "func" (.lit (.string [115, 113, 108, 109, 105, 110, 105, 47, 115, 113, 108, 46, 80, 114, 105, 110, 116])), .iface "func" (.lit (.string [115, 113, 108, 109, 105, 110, 105, 47, 115, 113, 108, 46, 80, 114, 105, 110, 116, 76, 111, 111, 115, 101])), .iface "func" (.lit (.string [40, 42, 115, 113, 108, 109, 105, 110, 105, 47, 97, 115, 116, 46, 83, 116, 109, 116, 41, 46, 67, 104, 101, 99, 107]))])

/-- 'law.RelDrops': WHATEVER THE INPUT: true; the input reads as it did. -/
def relDropsSpec : ChangeSpec := { name := "relDrops", fn := fun _ => fun
  | [d] => { results := [.lit (.bool true)], args := [d] }
  | _ => none }
def relDropsRow : OpenClaim := { program := "ygdaegdoor", sum := "944f93a665c9e09dbcc428d1fdd824d8d150b4a4f9bcbc8b4bbb9db0656f1cb6", func := "sqlmini/law.RelDrops", spec := "relDrops", inPlace := ["math.Float64bits"], unfollowed := true, recurses := true, named := ["sqlmini/law.theRel"], apart := false, laid := [("sqlmini/law.theRel", laid_sqlmini_law_theRel)] }
def RelDropsSaid : Prop := relDropsRow.holds Yaed.pinned (OpenSpec.ofChange relDropsSpec)

/-- ITS FALSE NEIGHBOUR: 'it returns false'. Refute it at one input. -/
def relDropsWrong : ChangeSpec := { name := "relDrops", fn := fun _ => fun
  | [d] => { results := [.lit (.bool false)], args := [d] }
  | _ => none }
def RelDropsWrongFalsely : Prop := relDropsRow.holds Yaed.pinned (OpenSpec.ofChange relDropsWrong)

/-- 'law.RelFilters': WHATEVER THE INPUT: true; the input reads as it did. -/
def relFiltersSpec : ChangeSpec := { name := "relFilters", fn := fun _ => fun
  | [d1, d2] => { results := [.lit (.bool true)], args := [d1, d2] }
  | _ => none }
def relFiltersRow : OpenClaim := { program := "ygdaegdoor", sum := "944f93a665c9e09dbcc428d1fdd824d8d150b4a4f9bcbc8b4bbb9db0656f1cb6", func := "sqlmini/law.RelFilters", spec := "relFilters", inPlace := ["math.Float64bits"], unfollowed := true, recurses := true, named := ["sqlmini/law.theRel"], apart := false, laid := [("sqlmini/law.theRel", laid_sqlmini_law_theRel)] }
def RelFiltersSaid : Prop := relFiltersRow.holds Yaed.pinned (OpenSpec.ofChange relFiltersSpec)

/-- ITS FALSE NEIGHBOUR: 'it returns false'. Refute it at one input. -/
def relFiltersWrong : ChangeSpec := { name := "relFilters", fn := fun _ => fun
  | [d1, d2] => { results := [.lit (.bool false)], args := [d1, d2] }
  | _ => none }
def RelFiltersWrongFalsely : Prop := relFiltersRow.holds Yaed.pinned (OpenSpec.ofChange relFiltersWrong)

/-- 'law.RelUpdates': WHATEVER THE INPUT: true; the input reads as it did. -/
def relUpdatesSpec : ChangeSpec := { name := "relUpdates", fn := fun _ => fun
  | [d1, d2, d3] => { results := [.lit (.bool true)], args := [d1, d2, d3] }
  | _ => none }
def relUpdatesRow : OpenClaim := { program := "ygdaegdoor", sum := "944f93a665c9e09dbcc428d1fdd824d8d150b4a4f9bcbc8b4bbb9db0656f1cb6", func := "sqlmini/law.RelUpdates", spec := "relUpdates", inPlace := ["math.Float64bits"], unfollowed := true, recurses := true, named := ["sqlmini/law.theRel"], apart := false, laid := [("sqlmini/law.theRel", laid_sqlmini_law_theRel)] }
def RelUpdatesSaid : Prop := relUpdatesRow.holds Yaed.pinned (OpenSpec.ofChange relUpdatesSpec)

/-- ITS FALSE NEIGHBOUR: 'it returns false'. Refute it at one input. -/
def relUpdatesWrong : ChangeSpec := { name := "relUpdates", fn := fun _ => fun
  | [d1, d2, d3] => { results := [.lit (.bool false)], args := [d1, d2, d3] }
  | _ => none }
def RelUpdatesWrongFalsely : Prop := relUpdatesRow.holds Yaed.pinned (OpenSpec.ofChange relUpdatesWrong)

/-- 'law.RelSorts': WHATEVER THE INPUT: true; the input reads as it did. -/
def relSortsSpec : ChangeSpec := { name := "relSorts", fn := fun _ => fun
  | [d1, d2, d3, d4, d5, d6, d7] => { results := [.lit (.bool true)], args := [d1, d2, d3, d4, d5, d6, d7] }
  | _ => none }
def relSortsRow : OpenClaim := { program := "ygdaegdoor", sum := "944f93a665c9e09dbcc428d1fdd824d8d150b4a4f9bcbc8b4bbb9db0656f1cb6", func := "sqlmini/law.RelSorts", spec := "relSorts", inPlace := ["math.Float64bits"], unfollowed := true, recurses := true, named := ["sqlmini/law.theRel"], apart := false, laid := [("sqlmini/law.theRel", laid_sqlmini_law_theRel)] }
def RelSortsSaid : Prop := relSortsRow.holds Yaed.pinned (OpenSpec.ofChange relSortsSpec)

/-- ITS FALSE NEIGHBOUR: 'it returns false'. Refute it at one input. -/
def relSortsWrong : ChangeSpec := { name := "relSorts", fn := fun _ => fun
  | [d1, d2, d3, d4, d5, d6, d7] => { results := [.lit (.bool false)], args := [d1, d2, d3, d4, d5, d6, d7] }
  | _ => none }
def RelSortsWrongFalsely : Prop := relSortsRow.holds Yaed.pinned (OpenSpec.ofChange relSortsWrong)

/-- 'law.RelUndoes': WHATEVER THE INPUT: true; the input reads as it did. -/
def relUndoesSpec : ChangeSpec := { name := "relUndoes", fn := fun _ => fun
  | [d1, d2] => { results := [.lit (.bool true)], args := [d1, d2] }
  | _ => none }
def relUndoesRow : OpenClaim := { program := "ygdaegdoor", sum := "944f93a665c9e09dbcc428d1fdd824d8d150b4a4f9bcbc8b4bbb9db0656f1cb6", func := "sqlmini/law.RelUndoes", spec := "relUndoes", unfollowed := true, recurses := true, named := ["sqlmini/law.theRel"], apart := false, laid := [("sqlmini/law.theRel", laid_sqlmini_law_theRel)] }
def RelUndoesSaid : Prop := relUndoesRow.holds Yaed.pinned (OpenSpec.ofChange relUndoesSpec)

/-- ITS FALSE NEIGHBOUR: 'it returns false'. Refute it at one input. -/
def relUndoesWrong : ChangeSpec := { name := "relUndoes", fn := fun _ => fun
  | [d1, d2] => { results := [.lit (.bool false)], args := [d1, d2] }
  | _ => none }
def RelUndoesWrongFalsely : Prop := relUndoesRow.holds Yaed.pinned (OpenSpec.ofChange relUndoesWrong)

/-- 'law.RelGroups': WHATEVER THE INPUT: true; the input reads as it did. -/
def relGroupsSpec : ChangeSpec := { name := "relGroups", fn := fun _ => fun
  | [d1, d2, d3] => { results := [.lit (.bool true)], args := [d1, d2, d3] }
  | _ => none }
def relGroupsRow : OpenClaim := { program := "ygdaegdoor", sum := "944f93a665c9e09dbcc428d1fdd824d8d150b4a4f9bcbc8b4bbb9db0656f1cb6", func := "sqlmini/law.RelGroups", spec := "relGroups", inPlace := ["math.Float64bits"], unfollowed := true, recurses := true, named := ["sqlmini/law.theRel"], apart := false, laid := [("sqlmini/law.theRel", laid_sqlmini_law_theRel)] }
def RelGroupsSaid : Prop := relGroupsRow.holds Yaed.pinned (OpenSpec.ofChange relGroupsSpec)

/-- ITS FALSE NEIGHBOUR: 'it returns false'. Refute it at one input. -/
def relGroupsWrong : ChangeSpec := { name := "relGroups", fn := fun _ => fun
  | [d1, d2, d3] => { results := [.lit (.bool false)], args := [d1, d2, d3] }
  | _ => none }
def RelGroupsWrongFalsely : Prop := relGroupsRow.holds Yaed.pinned (OpenSpec.ofChange relGroupsWrong)

/-- 'law.ParseBack': WHATEVER THE INPUT: true; the input reads as it did. -/
def parseBackSpec : ChangeSpec := { name := "parseBack", fn := fun _ => fun
  | [d] => { results := [.lit (.bool true)], args := [d] }
  | _ => none }
def parseBackRow : OpenClaim := { program := "ygdaegdoor", sum := "944f93a665c9e09dbcc428d1fdd824d8d150b4a4f9bcbc8b4bbb9db0656f1cb6", func := "sqlmini/law.ParseBack", spec := "parseBack", inPlace := ["math.Float64bits"], unfollowed := true, recurses := true, named := ["sqlmini/law.theSQL"], apart := false, laid := [("sqlmini/law.theSQL", laid_sqlmini_law_theSQL)] }
def ParseBackSaid : Prop := parseBackRow.holds Yaed.pinned (OpenSpec.ofChange parseBackSpec)

/-- ITS FALSE NEIGHBOUR: 'it returns false'. Refute it at one input. -/
def parseBackWrong : ChangeSpec := { name := "parseBack", fn := fun _ => fun
  | [d] => { results := [.lit (.bool false)], args := [d] }
  | _ => none }
def ParseBackWrongFalsely : Prop := parseBackRow.holds Yaed.pinned (OpenSpec.ofChange parseBackWrong)

/-- 'law.ParseLoose': WHATEVER THE INPUT: true; the input reads as it did. -/
def parseLooseSpec : ChangeSpec := { name := "parseLoose", fn := fun _ => fun
  | [d1, d2] => { results := [.lit (.bool true)], args := [d1, d2] }
  | _ => none }
def parseLooseRow : OpenClaim := { program := "ygdaegdoor", sum := "944f93a665c9e09dbcc428d1fdd824d8d150b4a4f9bcbc8b4bbb9db0656f1cb6", func := "sqlmini/law.ParseLoose", spec := "parseLoose", inPlace := ["math.Float64bits"], unfollowed := true, recurses := true, named := ["sqlmini/law.theSQL"], apart := false, laid := [("sqlmini/law.theSQL", laid_sqlmini_law_theSQL)] }
def ParseLooseSaid : Prop := parseLooseRow.holds Yaed.pinned (OpenSpec.ofChange parseLooseSpec)

/-- ITS FALSE NEIGHBOUR: 'it returns false'. Refute it at one input. -/
def parseLooseWrong : ChangeSpec := { name := "parseLoose", fn := fun _ => fun
  | [d1, d2] => { results := [.lit (.bool false)], args := [d1, d2] }
  | _ => none }
def ParseLooseWrongFalsely : Prop := parseLooseRow.holds Yaed.pinned (OpenSpec.ofChange parseLooseWrong)

/-- 'law.ParseTotal': WHATEVER THE INPUT: true; the input reads as it did. -/
def parseTotalSpec : ChangeSpec := { name := "parseTotal", fn := fun _ => fun
  | [d] => { results := [.lit (.bool true)], args := [d] }
  | _ => none }
def parseTotalRow : OpenClaim := { program := "ygdaegdoor", sum := "944f93a665c9e09dbcc428d1fdd824d8d150b4a4f9bcbc8b4bbb9db0656f1cb6", func := "sqlmini/law.ParseTotal", spec := "parseTotal", inPlace := ["math.Float64bits"], unfollowed := true, recurses := true, named := ["sqlmini/law.theSQL"], apart := false, laid := [("sqlmini/law.theSQL", laid_sqlmini_law_theSQL)] }
def ParseTotalSaid : Prop := parseTotalRow.holds Yaed.pinned (OpenSpec.ofChange parseTotalSpec)

/-- ITS FALSE NEIGHBOUR: 'it returns false'. Refute it at one input. -/
def parseTotalWrong : ChangeSpec := { name := "parseTotal", fn := fun _ => fun
  | [d] => { results := [.lit (.bool false)], args := [d] }
  | _ => none }
def ParseTotalWrongFalsely : Prop := parseTotalRow.holds Yaed.pinned (OpenSpec.ofChange parseTotalWrong)

/-- 'law.ParseTable': WHATEVER THE INPUT: true; the input reads as it did. -/
def parseTableSpec : ChangeSpec := { name := "parseTable", fn := fun _ => fun
  | [d] => { results := [.lit (.bool true)], args := [d] }
  | _ => none }
def parseTableRow : OpenClaim := { program := "ygdaegdoor", sum := "944f93a665c9e09dbcc428d1fdd824d8d150b4a4f9bcbc8b4bbb9db0656f1cb6", func := "sqlmini/law.ParseTable", spec := "parseTable", inPlace := ["math.Float64bits"], unfollowed := true, recurses := true, named := ["sqlmini/law.theSQL"], apart := false, laid := [("sqlmini/law.theSQL", laid_sqlmini_law_theSQL)] }
def ParseTableSaid : Prop := parseTableRow.holds Yaed.pinned (OpenSpec.ofChange parseTableSpec)

/-- ITS FALSE NEIGHBOUR: 'it returns false'. Refute it at one input. -/
def parseTableWrong : ChangeSpec := { name := "parseTable", fn := fun _ => fun
  | [d] => { results := [.lit (.bool false)], args := [d] }
  | _ => none }
def ParseTableWrongFalsely : Prop := parseTableRow.holds Yaed.pinned (OpenSpec.ofChange parseTableWrong)

/-- 'law.ParseCodes': WHATEVER THE INPUT: true; the input reads as it did. -/
def parseCodesSpec : ChangeSpec := { name := "parseCodes", fn := fun _ => fun
  | [d] => { results := [.lit (.bool true)], args := [d] }
  | _ => none }
def parseCodesRow : OpenClaim := { program := "ygdaegdoor", sum := "944f93a665c9e09dbcc428d1fdd824d8d150b4a4f9bcbc8b4bbb9db0656f1cb6", func := "sqlmini/law.ParseCodes", spec := "parseCodes", inPlace := ["internal/abi.NoEscape", "internal/bytealg.MakeNoZero"], unfollowed := true, recurses := true, named := ["sqlmini/law.theSQL"], apart := false, laid := [("sqlmini/law.theSQL", laid_sqlmini_law_theSQL)] }
def ParseCodesSaid : Prop := parseCodesRow.holds Yaed.pinned (OpenSpec.ofChange parseCodesSpec)

/-- ITS FALSE NEIGHBOUR: 'it returns false'. Refute it at one input. -/
def parseCodesWrong : ChangeSpec := { name := "parseCodes", fn := fun _ => fun
  | [d] => { results := [.lit (.bool false)], args := [d] }
  | _ => none }
def ParseCodesWrongFalsely : Prop := parseCodesRow.holds Yaed.pinned (OpenSpec.ofChange parseCodesWrong)

end Rows
end Go.Proofs.YgdaegDoor
