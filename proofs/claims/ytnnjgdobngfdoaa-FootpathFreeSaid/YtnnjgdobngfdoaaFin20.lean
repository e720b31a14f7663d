/- All functions. -/
import Derived.Test.YtnnjgdobngfdoaaFin20a
